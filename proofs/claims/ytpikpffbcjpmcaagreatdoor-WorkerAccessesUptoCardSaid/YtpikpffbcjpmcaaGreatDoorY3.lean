/- plunderlaw11.WorkerAccesses answers true for every input of the bulk that the statement names and leaves its input alone; the last part states it. Conditions: none. -/
import Derived.Test.YtpikpffbcjpmcaaGreatDoorY2
set_option linter.unusedVariables false
set_option linter.unusedSimpArgs false
set_option linter.unusedSectionVars false
namespace Go.Proofs.YtpikpffbcjpmcaaGreatDoor
section
namespace Mo
open Go Go.RowKit SL GX
set_option maxRecDepth 100000
set_option maxHeartbeats 4000000
noncomputable section
variable {z w:World}{L:List bE}
theorem xN{p0 r0:aC}{p1:Int}(H:eX p0 p1=some r0)(h:Fit z (an (L)) w) :
 Calls Tryz.prog 211 #[dX p0,vI p1] w λe w=>e=.returned (dX r0)∧Fit z (an (L)) w:=by
 unfold eX at H;refine ke Tryz.func211 55 rfl λj=>ks<|kN h (kR p0) 120 λb1 w h=>kN h (#[vI 0,vI 0,vI 0,vI 0,vI 0,vI 0,vI 0,vI 0,vI 0,vI 0,vI 0,vI 0,vI 0,vB false,vI 0,vI 0]) 120 λb2 w h=>kn<|wq<|ks<|ko [U]<|kL (h.pick 1) 1<|kn<|wb<|ks<|ko [vB (p0.ag==2),vB (p0.ag==2)]<|kn<|dR H (λc3 H=>?_) λc3 H=>?_
 ·refine wl<|ko [U,U]<|qh h.m1 λh=>kS h 5 (cZ b1 {p0 with t:=p1}) λw h=>ko [U]<|kS h 1 (cZ b1 {p0 with ag:=1,t:=p1}) λw h=>kl<|bn<|tn<|ks<|kM h<|qh h.m1 λh=>kA h (cZ b2 {p0 with ag:=1,t:=p1}) λw h=>kn<|wr<|kC h<|?_;cases H;exact⟨rfl,h.se 2 []⟩
 refine ks<|ko [vB (p0.ag==1),vB (p0.ag==1)]<|kn<|dR H (λc4 H=>?_) λc4 H=>?_
 ·refine ks<|ko [U,U]<|qh h.m1 λh=>kS h 6 (cZ b1 {p0 with b:=p1}) λw h=>ko [U]<|kS h 1 (cZ b1 {p0 with ag:=3,b:=p1}) λw h=>kn<|ks<|ko [U]<|kL h 5<|ko [U]<|kL h 6<|ko [vB (decide (p0.t≥p1))]<|kn<|dR H (λc5 H=>?_) λc5 H=>?_
  ·refine ks<|kM h<|fO H λr6 e7 H=>eU (fg (H:=e7) (h:=h) :) λw h=>qh h.m1 λh=>kA h (cZ b2 r6) λw h=>kn<|wr<|br<|tr<|kC h<|?_;cases H;exact⟨rfl,h.se 2 []⟩
  refine wk<|bn<|tn<|ks<|kM h<|qh h.m1 λh=>kA h (cZ b2 {p0 with ag:=3,b:=p1}) λw h=>kn<|wr<|kC h<|?_;cases H;exact⟨rfl,h.se 2 []⟩
 refine ks<|ko [vB (p0.ag==3),vB (p0.ag==3)]<|kn<|dR H (λc8 H=>?_) λc8 H=>?_
 ·refine wl<|ko [U,U]<|qh h.m1 λh=>kS h 7 (cZ b1 {p0 with a:=p1}) λw h=>ko [U]<|kS h 1 (cZ b1 {p0 with ag:=4,a:=p1}) λw h=>kl<|bn<|tn<|ks<|kM h<|qh h.m1 λh=>kA h (cZ b2 {p0 with ag:=4,a:=p1}) λw h=>kn<|wr<|kC h<|?_;cases H;exact⟨rfl,h.se 2 []⟩
 refine ks<|ko [vB (p0.ag==4),vB (p0.ag==4)]<|kn<|dR H (λc9 H=>?_) λc9 H=>?_
 ·refine ks<|ko [U,U]<|qh h.m1 λh=>kS h 8 (cZ b1 {p0 with c:=p1}) λw h=>ko [U]<|kS h 1 (cZ b1 {p0 with ag:=12,c:=p1}) λw h=>kn<|ks<|ko [U]<|kL h 8<|ko [vB (decide (p1<1))]<|kn<|dR H (λnV H=>?_) λnV H=>?_
  ·refine ks<|kM h<|fO H λsx Aa H=>eU (fg (H:=Aa) (h:=h) :) λw h=>qh h.m1 λh=>kA h (cZ b2 sx) λw h=>kn<|wr<|br<|tr<|kC h<|?_;cases H;exact⟨rfl,h.se 2 []⟩
  refine wk<|bn<|tn<|ks<|kM h<|qh h.m1 λh=>kA h (cZ b2 {p0 with ag:=12,c:=p1}) λw h=>kn<|wr<|kC h<|?_;cases H;exact⟨rfl,h.se 2 []⟩
 refine ks<|ko [vB (p0.ag==12),vB (p0.ag==12)]<|kn<|dR H (λvk H=>?_) λvk H=>?_
 ·refine wl<|ko [U,U]<|qh h.m1 λh=>kS h 12 (cZ b1 {p0 with x:=p1}) λw h=>ko [U]<|kS h 1 (cZ b1 {p0 with ag:=13,x:=p1}) λw h=>kl<|bn<|tn<|ks<|kM h<|qh h.m1 λh=>kA h (cZ b2 {p0 with ag:=13,x:=p1}) λw h=>kn<|wr<|kC h<|?_;cases H;exact⟨rfl,h.se 2 []⟩
 refine ks<|ko [vB (p0.ag==13),vB (p0.ag==13)]<|kn<|dR H (λza H=>?_) λza H=>?_
 ·refine wq<|ks<|ko [U,vB (p1==1)]<|kn<|dR H (λnE H=>?_) λnE H=>?_
  ·refine ks<|kM (h.pick 1)<|ko [U]<|kL (h.pick 1) 12<|fO H λr16 Ie H=>eU (fg (H:=Ie) (h:=h) :) λw h=>kA h (cZ b2 r16) λw h=>kn<|wr<|tr<|br<|tr<|kC h<|?_;cases H;exact⟨rfl,h.se 2 []⟩
  refine wk<|tn<|ks<|kM (h.pick 1)<|fO H λvU HM H=>eU (fg (H:=HM) (h:=h) :) λw h=>kA h (cZ b2 vU) λw h=>kn<|wr<|br<|tr<|kC h<|?_;cases H;exact⟨rfl,h.se 2 []⟩
 refine wk<|bn<|tn<|ks<|kM (h.pick 1)<|kA h (cZ b2 p0) λw h=>kn<|wr<|kC h<|?_;cases H;exact⟨rfl,h.se 2 []⟩
def jO(p0:aC)(p1:Int):Option (aC):=
 (if p0.ag=2 then some ({p0 with ag:=1,t:=p1})else(if p0.t<p1 then eL (dL p0 7 0) (λr5=>some r5)else eL (dL p0 8 0) (λr7=>some r7)))
theorem xO{p0 r0:aC}{p1:Int}(H:jO p0 p1=some r0)(h:Fit z (an (L)) w) :
 Calls Tryz.prog 212 #[dX p0,vI p1] w λe w=>e=.returned (dX r0)∧Fit z (an (L)) w:=by
 unfold jO at H;refine ke Tryz.func212 20 rfl λj=>ks<|kN h (kR p0) 120 λb1 w h=>kN h (#[vI 0,vI 0,vI 0,vI 0,vI 0,vI 0,vI 0,vI 0,vI 0,vI 0,vI 0,vI 0,vI 0,vB false,vI 0,vI 0]) 120 λb2 w h=>kn<|wq<|ks<|ko [U]<|kL (h.pick 1) 1<|ko [vB (p0.ag==2)]<|kn<|dR H (λc3 H=>?_) λc3 H=>?_
 ·refine ks<|ko [U,U]<|qh h.m1 λh=>kS h 5 (cZ b1 {p0 with t:=p1}) λw h=>ko [U]<|kS h 1 (cZ b1 {p0 with ag:=1,t:=p1}) λw h=>kn<|ks<|kM h<|qh h.m1 λh=>kA h (cZ b2 {p0 with ag:=1,t:=p1}) λw h=>kn<|wr<|tr<|kC h<|?_;cases H;exact⟨rfl,h.se 2 []⟩
 refine wk<|tn<|wq<|ks<|ko [U]<|kL (h.pick 1) 5<|ko [U,vB (decide (p0.t<p1))]<|kn<|dR H (λc4 H=>?_) λc4 H=>?_
 ·refine ks<|kM (h.pick 1)<|fO H λr5 e6 H=>eU (fg (H:=e6) (h:=h) :) λw h=>kA h (cZ b2 r5) λw h=>kn<|wr<|tr<|kC h<|?_;cases H;exact⟨rfl,h.se 2 []⟩
 refine wk<|tn<|ks<|kM (h.pick 1)<|fO H λr7 e8 H=>eU (fg (H:=e8) (h:=h) :) λw h=>kA h (cZ b2 r7) λw h=>kn<|wr<|kC h<|?_;cases H;exact⟨rfl,h.se 2 []⟩
def eG(p0:ah)(p1:aC):Option (aC×ah):=
 vg ((if p1=(⟨0,0,0,0,0,0,0,0,0,0,0,0,0,false,0,0⟩:aC)then some (.inr (p1,p0))else(if p1.ag=0 then some (.inr (p1,p0))else some (.inl ())))) (nC (bt p1 p0) (λsx xm C6=>(if xm=0 then(if p1.kind=1 then eL (dV p1 sx) (λvL=>some (vL,C6))else(if p1.kind=2 then eL (dW p1 sx) (λJG=>some (JG,C6))else(if p1.kind=3 then eL (eX p1 sx) (λLK=>some (LK,C6))else eL (jO p1 sx) (λQs=>some (Qs,C6)))))else eL (dL p1 1 0) (λtS=>some (tS,C6)))))
theorem sL{p0 q0:ah}{p1 r0:aC}{B0 er eN:Nat}{eu dU:Option Addr}(H:eG p0 p1=some (r0,q0))(h:Fit z (an (dx B0 p0 eu er dU eN::iC eu er p0.cell::bY dU eN p0.log::L)) w) :
 Calls Tryz.prog 184 #[.iface 33 (pA B0 0),dX p1] w λe w=>∃x1 x2 x3 x4,e=.returned (dX r0)∧Fit z (an (dx B0 q0 x1 x2 x3 x4::iC x1 x2 q0.cell::bY x3 x4 q0.log::L)) w:=by
 unfold eG at H;refine ke Tryz.func184 50 rfl λj=>ks<|kN h (kR p1) 120 λb5 w h=>kN h (#[vI 0,vI 0,vI 0,vI 0,vI 0,vI 0,vI 0,vI 0,vI 0,vI 0,vI 0,vI 0,vI 0,vB false,vI 0,vI 0]) 120 λb6 w h=>kn<|?_;obtain⟨o8,H,HS⟩:=AW H;refine λ_ r=>dw (β:=Unit) (λ_ a w=>.inl ()=o8∧∃j,kP 50 (lk [(0,.iface 33 (pA B0 0)),(3,pA b5 0),(4,pA b6 0)] j) a∧Fit z (an (dx B0 p0 eu er dU eN::iC eu er p0.cell::bY dU eN p0.log::cZ b5 p1::pts b6 (.cells #[vI 0,vI 0,vI 0,vI 0,vI 0,vI 0,vI 0,vI 0,vI 0,vI 0,vI 0,vI 0,vI 0,vB false,vI 0,vI 0] 120)::L)) w) ?_ ?_
 ·refine qq r<|ks<|kM (h.pick 1)<|ko [U]<|kp (vB (decide (p1=(⟨0,0,0,0,0,0,0,0,0,0,0,0,0,false,0,0⟩:aC)))) (rb (Rm rfl (by kernel_rfl) (by kernel_rfl) (by kernel_rfl) (by kernel_rfl) (by kernel_rfl) (by kernel_rfl)) (ya p1 (⟨0,0,0,0,0,0,0,0,0,0,0,0,0,false,0,0⟩:aC)))<|ko [vB (decide (p1=(⟨0,0,0,0,0,0,0,0,0,0,0,0,0,false,0,0⟩:aC)))]<|qI H (λc9 H=>?_) λc9 H=>?_
  ·refine bZ (dT c9) [11,12,13]<|mH (dT c9) (vB true)<|kn<|λ_ r=>gb r (b:=true) rfl<|qq r<|ks<|kM (h.pick 1)<|kA h (cZ b6 p1) λw h=>kn<|wr<|tr<|kC h<|?_;replace H:=sQ H HS;cases H;exact⟨eu,er,dU,eN,rfl,h.se 5 [2,3,4]⟩
  refine cS (dF c9) [11] [pA b5 1]<|q9 (dF c9) (h.pick 1) 1<|cS (dF c9) [13] [vB (p1.ag==0)]<|mF (dF c9) (vB (p1.ag==0))<|kn<|dR H (λnV H=>?_) λnV H=>?_
  ·refine ks<|kM (h.pick 1)<|kA h (cZ b6 p1) λw h=>kn<|wr<|tr<|kC h<|?_;replace H:=sQ H HS;cases H;exact⟨eu,er,dU,eN,rfl,h.se 5 [2,3,4]⟩
  refine wk<|tn<|?_;exact λ_ r=>⟨(),gH H,r.fj (h.se 5 [2,3,4,1,0])⟩
 clear h r;rintro _ a w ⟨rfl,j,r,h⟩;replace H:=AX HS;refine qq r<|wq<|ks<|ko [U,U]<|kn<|λ_ r=>ik r (b:=false) rfl<|qq r<|wk<|tn<|ks<|kM (h.pick 3)<|ql H λsx xm C6 Ci H=>ko [U]<|jz (tW (H:=Ci) (h:=h) :) λzk xG EC Cj w h=>ko [.tuple #[vI sx,vI xm],U,U,U,U]<|kn<|wq<|ks<|ko [U,vB (xm != 0)]<|kn<|oA H (λsy H=>?_) λsy H=>?_
 ·refine wk<|tn<|wq<|ks<|ko [U]<|kL (h.pick 3) 0<|kn<|wb<|ks<|ko [vB (p1.kind==1),vB (p1.kind==1)]<|kn<|dR H (λkE H=>?_) λkE H=>?_
  ·refine ks<|kM (h.pick 3)<|fO H λvL HZ H=>ko [U]<|eU (xL (H:=HZ) (h:=h) :) λw h=>qh h.m4 λh=>kA h (cZ b6 vL) λw h=>kn<|wr<|br<|tr<|kC h<|?_;cases H;exact⟨zk,xG,EC,Cj,rfl,h.se 5 [1,2,3]⟩
  refine ks<|ko [vB (p1.kind==2),vB (p1.kind==2)]<|kn<|dR H (λvY H=>?_) λvY H=>?_
  ·refine ks<|kM (h.pick 3)<|fO H λJG U5 H=>ko [U]<|eU (xM (H:=U5) (h:=h) :) λw h=>qh h.m4 λh=>kA h (cZ b6 JG) λw h=>kn<|wr<|br<|tr<|kC h<|?_;cases H;exact⟨zk,xG,EC,Cj,rfl,h.se 5 [1,2,3]⟩
  refine ks<|ko [vB (p1.kind==3),vB (p1.kind==3)]<|kn<|dR H (λyd H=>?_) λyd H=>?_
  ·refine ks<|kM (h.pick 3)<|fO H λLK Kr H=>ko [U]<|eU (xN (H:=Kr) (h:=h) :) λw h=>qh h.m4 λh=>kA h (cZ b6 LK) λw h=>kn<|wr<|br<|tr<|kC h<|?_;cases H;exact⟨zk,xG,EC,Cj,rfl,h.se 5 [1,2,3]⟩
  refine wk<|bn<|tn<|ks<|kM (h.pick 3)<|fO H λQs LL H=>ko [U]<|eU (xO (H:=LL) (h:=h) :) λw h=>qh h.m4 λh=>kA h (cZ b6 Qs) λw h=>kn<|wr<|kC h<|?_;cases H;exact⟨zk,xG,EC,Cj,rfl,h.se 5 [1,2,3]⟩
 refine ks<|kM (h.pick 3)<|fO H λtS HV H=>eU (fg (H:=HV) (h:=h) :) λw h=>qh h.m4 λh=>kA h (cZ b6 tS) λw h=>kn<|wr<|tr<|kC h<|?_;cases H;exact⟨zk,xG,EC,Cj,rfl,h.se 5 [1,2,3]⟩
def lP(p0:aC):Option (Int×Int):=
 (if p0=(⟨0,0,0,0,0,0,0,0,0,0,0,0,0,false,0,0⟩:aC)then some (1,0)else(if p0.ag=0 then some (p0.code,p0.value)else some (0,0)))
theorem vP{p0:aC}{r0 r1:Int}(H:lP p0=some (r0,r1))(h:Fit z (an (L)) w) :
 Calls Tryz.prog 185 #[dX p0] w λe w=>e=.returned (.tuple #[vI r0,vI r1])∧Fit z (an (L)) w:=by
 unfold lP at H;refine ke Tryz.func185 16 rfl λj=>ks<|kN h (kR p0) 120 λb1 w h=>ko [U,U]<|kn<|wq<|wb<|ks<|kM h<|ko [U]<|kp (vB (decide (p0=(⟨0,0,0,0,0,0,0,0,0,0,0,0,0,false,0,0⟩:aC)))) (rb (Rm rfl (by kernel_rfl) (by kernel_rfl) (by kernel_rfl) (by kernel_rfl) (by kernel_rfl) (by kernel_rfl)) (ya p0 (⟨0,0,0,0,0,0,0,0,0,0,0,0,0,false,0,0⟩:aC)))<|ko [vB (decide (p0=(⟨0,0,0,0,0,0,0,0,0,0,0,0,0,false,0,0⟩:aC)))]<|kn<|dR H (λc2 H=>?_) λc2 H=>?_
 ·refine ks<|ko [U,U]<|kn<|wr<|br<|tr<|?_;cases H;exact HH (h.se 1 [])
 refine ks<|ko [U]<|kL h 1<|ko [vB (p0.ag != 0),vB (p0.ag != 0)]<|kn<|oA H (λc3 H=>?_) λc3 H=>?_
 ·refine wk<|bn<|tn<|wq<|λ_ r=>fy [(b1,14,[vI p0.code]),(b1,15,[vI p0.value])] [0,2] 6 h (λh=>⟨⟨h.cell 14 rfl,gE⟩,⟨h.cell 15 rfl,gE⟩,gE⟩) λw h hd =>qq r<|gg hd 4 [(0,12,pA b1 14),(2,14,pA b1 15)]<|kx hd 0 3 1 rfl rfl<|gg hd 2 [(4,2,vI p0.code)]<|kx hd 1 1 3 rfl rfl<|gg hd 0 [(5,3,vI p0.value)]<|λ_ r=>ji<|qq r<|tn<|wr<|?_;cases H;exact HH (h.se 1 [])
 refine ks<|ko [U,U]<|kn<|wr<|br<|tr<|?_;cases H;exact HH (h.se 1 [])
def jG(p0:ai)(bK:ah)(aa:Int):Option (Int×Int×ai×ah):=
 pL (eG bK (ag p0.ae aa.toNat).aX) (λpZ QC=>pL (lP ({ag p0.ae aa.toNat with aX:=pZ}).aX) (λyf vL=>some (yf,vL,{p0 with ae:=p0.ae.set aa.toNat ({ag p0.ae aa.toNat with aX:=pZ})},QC)))
theorem oy{p0 q0:ai}{bK fP:ah}{aa r0 r1:Int}{B0 bU er eN eW eD bP bD:Nat}{eu dU eO ei cT ax:Option Addr}(H:jG p0 bK aa=some (r0,r1,q0,fP))(h:Fit z (an (fb B0 p0 (.iface 33 (pA bU 0)) eO eW ei eD cT bP ax bD::gD eO eW p0.code::ew ei eD p0.aP::eA cT bP p0.ak::ey B0 ax bD p0.ae::dx bU bK eu er dU eN::iC eu er bK.cell::bY dU eN bK.log::L)) w)(fW:bT aa p0.ae.length) :
 Calls Tryz.prog 134 #[pA (bg ax) (aa.toNat*188)] w λe w=>∃cF cG cH cI,e=.returned (.tuple #[vI r0,vI r1])∧Fit z (an (fb B0 q0 (.iface 33 (pA bU 0)) eO eW ei eD cT bP ax bD::gD eO eW q0.code::ew ei eD q0.aP::eA cT bP q0.ak::ey B0 ax bD q0.ae::dx bU fP cF cG cH cI::iC cF cG fP.cell::bY cH cI fP.log::L)) w:=by
 unfold jG at H;refine ke Tryz.func134 27 rfl λj=>ks<|ko [U,U]<|kn<|wq<|ta H λpZ QC Gh H=>λ_ r=>fy [(bg ax,aa.toNat*188,[pA B0 0]),(B0,0,[.iface 33 (pA bU 0)]),(bg ax,aa.toNat*188+9,iq (au p0 aa).aX)] [2,3,4,6,7,10,11] 17 h (λh=>⟨((h.pick 4).aQ (sz:=188) (i:=aa.toNat) (af B0) (f:=0) (bf fW) (xs:=[pA B0 0]) (by kernel_rfl)),⟨h.cell 0 rfl,gE⟩,((h.pick 4).aQ (sz:=188) (i:=aa.toNat) (af B0) (f:=9) (bf fW) (xs:=iq (au p0 aa).aX) (by kernel_rfl)),gE⟩) λw h hd =>qq r<|gg hd 9 [(0,4,pA (bg ax) (aa.toNat*188)),(1,5,pA (bg ax) (aa.toNat*188)),(2,6,pA (bg ax) (aa.toNat*188)),(3,7,pA (bg ax) (aa.toNat*188)),(4,8,pA (bg ax) (aa.toNat*188)),(9,13,pA (bg ax) (aa.toNat*188)),(10,14,pA (bg ax) (aa.toNat*188)),(11,15,pA (bg ax) (aa.toNat*188+9))]<|kx hd 0 8 5 rfl rfl<|gg hd 6 [(6,10,pA B0 0),(7,11,pA B0 0)]<|kx hd 1 5 8 rfl rfl<|tL hd 2 4 12 rfl rfl<|λ_ r=>eZ 13 rfl<|qh h.m7.m7.m7 λh=>qq r<|jz (sL (H:=Gh) (h:=h) :) λxG EC Cj rJ w h=>kn<|λ_ r=>xE<|gU 2 14 rfl (wn rfl) r (pA (bg ax) (aa.toNat*188))<|?_;refine λ_ r=>gU 1 15 rfl (wn rfl) r (pA (bg ax) (aa.toNat*188+9))<|?_;refine λ_ r=>eZ 16 rfl<|qh h.m7 λh=>fL (vs:=iq pZ) (f:=9) (i:=aa.toNat) (wn rfl) rfl r rfl (by kernel_rfl) (by kernel_rfl) rfl (by kernel_rfl) (af B0) h (p:=(au p0 aa)) (q:=({au p0 aa with aX:=pZ})) (bf fW) (Nat.le_of_ble_eq_true (by kernel_rfl)) (by kernel_rfl) λw h=>qq r<|kn<|λ_ r=>xE<|ji<|qq r<|tn<|ks<|ko [U,U,U]<|λ_ r=>tK (wn rfl) r (dX ({au p0 aa with aX:=pZ}).aX) (cs:=iq ({au p0 aa with aX:=pZ}).aX) (h.aQ (sz:=188) (i:=aa.toNat) (af B0) (f:=9) (cU (ef fW)) (xs:=iq ({au p0 aa with aX:=pZ}).aX) (by kernel_rfl))<|?_;refine ta H λyf vL HZ H=>eU (vP (H:=HZ) (h:=h) :) λw h=>ko [U,U,U,U]<|kn<|wr<|λ_ r=>lC (v:=vI yf) (v':=vI vL) rfl r (by kernel_rfl) (by kernel_rfl)<|qh h.m4.m1 λh=>?_;have M0:p0.ae.length=(ic p0 aa ({au p0 aa with aX:=pZ})).length:=h.eY;replace h:=Fit.jZ M0 (λq_=>rowOf 131 188 (aV B0) (.slice ax q_ bD) (ic p0 aa ({au p0 aa with aX:=pZ}))) (λq_=>pts B0 (.cells #[.iface 33 (pA bU 0),.slice eO p0.code.length eW,vI p0.result,vI p0.aR,vI p0.aJ,vI p0.bC,vI p0.aK,.slice ei p0.aP.length eD,.slice cT p0.ak.length bP,.slice ax q_ bD,vI p0.value,vB p0.left] 110)) h;cases H;exact⟨xG,EC,Cj,rJ,rfl,h.se 8 [1,5,6,7,0,2,3,4]⟩
def rz(p0:dm)(p1:Int):Option (bu):=
 eL (kr p0 p1) (λr3=>(if r3=true then some (⟨p0.jg,p0.cX,p1,2,8,1,0,0,0,(List.replicate 64 (⟨0,0⟩:aI)),(⟨0,0,0,0,0,0,0,0,0,0,0,0,0,false,0,0⟩:aC)⟩:bu)else some (⟨0,0,0,0,0,0,0,0,0,(List.replicate 64 (⟨0,0⟩:aI)),(⟨0,0,0,0,0,0,0,0,0,0,0,0,0,false,0,0⟩:aC)⟩:bu)))
theorem EO{p0:dm}{p1:Int}{r0:bu}(H:rz p0 p1=some r0)(h:Fit z (an (L)) w) :
 Calls Tryz.prog 135 #[nu p0,vI p1] w λe w=>e=.returned (gL r0)∧Fit z (an (L)) w:=by
 unfold rz at H;refine ke Tryz.func135 14 rfl λj=>ks<|kN h (pn p0) 106 λb1 w h=>kN h (([vI 0,vI 0,vI 0,vI 0,vI 0,vI 0,vI 0,vI 0,vI 0]++jr 64 bp (List.replicate 64 (⟨0,0⟩:aI))++bw (⟨0,0,0,0,0,0,0,0,0,0,0,0,0,false,0,0⟩:aC)).toArray) 129 λb2 w h=>kn<|wq<|ks<|kM (h.pick 1)<|fO H λr3 e4 H=>ko [U]<|eU (pP (H:=e4) (h:=h) :) λw h=>ko [vB (!r3)]<|kn<|C3 H (λc5 H=>?_) λc5 H=>?_
 ·refine wk<|tn<|ks<|kM (h.pick 1)<|ko [U,U,U]<|kA h (pts b2 (.cells (([vI p0.jg,vI p0.cX,vI p1,vI 2,vI 8,vI 1,vI 0,vI 0,vI 0]++jr 64 bp (List.replicate 64 (⟨0,0⟩:aI))++bw (⟨0,0,0,0,0,0,0,0,0,0,0,0,0,false,0,0⟩:aC)).toArray) 129)) λw h=>kn<|wr<|kC h<|?_;cases H;exact⟨rfl,h.se 2 []⟩
 refine ks<|ko [U]<|kA h (pts b2 (.cells (([vI 0,vI 0,vI 0,vI 0,vI 0,vI 0,vI 0,vI 0,vI 0]++jr 64 bp (List.replicate 64 (⟨0,0⟩:aI))++bw (⟨0,0,0,0,0,0,0,0,0,0,0,0,0,false,0,0⟩:aC)).toArray) 129)) λw h=>kn<|wr<|tr<|kC h<|?_;cases H;exact⟨rfl,h.se 2 []⟩
def bX(p0:ai)(bK:ah)(aa:Int)(p1:aF):Option (aD×ai×ah):=
 Hz (dz p0 bK (ag p0.ae aa.toNat).bj (ag p0.ae aa.toNat).bM) (if bT (ag p0.ae aa.toNat).bM p0.ak.length then C2 (jG p0 bK aa) (λr16 zf nU lY=>(if r16=0 then some ((⟨0,0,0,0,0,0⟩:aD),nU,lY)else(if r16=3 then if bT aa nU.ae.length then some ((⟨0,0,11,({ag nU.ae aa.toNat with aH:=14}).bM,1,0⟩:aD),{nU with ae:=nU.ae.set aa.toNat ({ag nU.ae aa.toNat with aH:=14})},lY)else none else(if r16=2 then if bT aa nU.ae.length then eL (rz (⟨nU.bC,nU.aK⟩:dm) (ag nU.ae aa.toNat).bj) (λtS=>some ((⟨0,0,2,({{ag nU.ae aa.toNat with bS:=tS}with aH:=4}).bM,({{ag nU.ae aa.toNat with bS:=tS}with aH:=4}).aj,(ag p0.ak (ag p0.ae aa.toNat).bM.toNat).nr⟩:aD),{nU with ae:=(nU.ae.set aa.toNat ({ag nU.ae aa.toNat with bS:=tS})).set aa.toNat ({{ag nU.ae aa.toNat with bS:=tS}with aH:=4})},lY))else none else if bT aa nU.ae.length then pL (de nU lY aa) (λyJ qb=>some (yJ,qb,lY))else none))))else none)
theorem mz{p0 q0:ai}{bK fP:ah}{aa:Int}{p1:aF}{B0 bU er eN eW eD bP bD B1:Nat}{eu dU eO ei cT ax:Option Addr}{r0:aD}(H:bX p0 bK aa p1=some (r0,q0,fP))(h:Fit z (an (fb B0 p0 (.iface 33 (pA bU 0)) eO eW ei eD cT bP ax bD::gD eO eW p0.code::ew ei eD p0.aP::eA cT bP p0.ak::ey B0 ax bD p0.ae::dx bU bK eu er dU eN::iC eu er bK.cell::bY dU eN bK.log::qU B1 p1::L)) w)(fW:bT aa p0.ae.length) :
 Calls Tryz.prog 88 #[pA (bg ax) (aa.toNat*188),.iface 42 (pA B1 0)] w λe w=>∃cF cG cH cI,e=.returned (dY r0)∧Fit z (an (fb B0 q0 (.iface 33 (pA bU 0)) eO eW ei eD cT bP ax bD::gD eO eW q0.code::ew ei eD q0.aP::eA cT bP q0.ak::ey B0 ax bD q0.ae::dx bU fP cF cG cH cI::iC cF cG fP.cell::bY cH cI fP.log::qU B1 p1::L)) w:=by
 unfold bX at H;refine ke Tryz.func88 73 rfl λj=>ks<|kN h (#[vI 0,vI 0,vI 0,vI 0,vI 0,vI 0]) 47 λgQ w h=>kn<|wq<|Rh H λCi H=>qg H λnE H=>λ_ r=>fy [(bg ax,aa.toNat*188,[pA B0 0,vI (au p0 aa).bj]),(bg ax,aa.toNat*188+5,[vI (au p0 aa).bM]),(bg cT,(au p0 aa).bM.toNat*22+5,[vI (ag p0.ak (au p0 aa).bM.toNat).nr])] [1,2,5,6,8,9,10] 13 h (λh=>⟨((h.pick 5).aQ (sz:=188) (i:=aa.toNat) (af B0) (f:=0) (bf fW) (xs:=[pA B0 0,vI (au p0 aa).bj]) (by kernel_rfl)),((h.pick 5).aQ (sz:=188) (i:=aa.toNat) (af B0) (f:=5) (bf fW) (xs:=[vI (au p0 aa).bM]) (by kernel_rfl)),((h.pick 4).aQ (sz:=22) (i:=(au p0 aa).bM.toNat) aS (f:=5) (bf nE) (xs:=[vI (ag p0.ak (au p0 aa).bM.toNat).nr]) (by kernel_rfl)),gE⟩) λw h hd =>qq r<|gg hd 7 [(0,8,pA (bg ax) (aa.toNat*188)),(1,9,pA (bg ax) (aa.toNat*188)),(2,10,pA (bg ax) (aa.toNat*188)),(4,12,pA (bg ax) (aa.toNat*188)),(5,13,pA (bg ax) (aa.toNat*188)),(6,14,pA (bg ax) (aa.toNat*188+5))]<|tL hd 0 6 3 rfl rfl<|kx hd 1 5 7 rfl rfl<|λ_ r=>eZ 8 rfl<|qh h.m8.m8.m8.m8.m8.m8.m8.m8 λh=>qq r<|eU (iz (H:=Ci) (h:=h) :) λw h=>kn<|λ_ r=>eE ⟨((h.pick 4).aQ (sz:=188) (i:=aa.toNat) (af B0) (f:=0) (bf fW) (xs:=[pA B0 0,vI (au p0 aa).bj]) (by kernel_rfl)),((h.pick 4).aQ (sz:=188) (i:=aa.toNat) (af B0) (f:=5) (bf fW) (xs:=[vI (au p0 aa).bM]) (by kernel_rfl)),((h.pick 3).aQ (sz:=22) (i:=(au p0 aa).bM.toNat) aS (f:=5) (bf nE) (xs:=[vI (ag p0.ak (au p0 aa).bM.toNat).nr]) (by kernel_rfl)),gE⟩ λhd =>qq r<|gg hd 2 [(9,17,pA (bg cT) ((au p0 aa).bM.toNat*22)),(10,18,pA (bg cT) ((au p0 aa).bM.toNat*22+5))]<|kx hd 2 1 11 rfl rfl<|gg hd 0 [(12,5,vI (ag p0.ak (au p0 aa).bM.toNat).nr)]<|λ_ r=>ji<|qq r<|tn<|wq<|ks<|HG H λr16 zf nU lY RD H=>ko [U]<|jz (oy (fW:=fW) (H:=RD) (h:=h) :) λoQ ow ur vM w h=>ko [.tuple #[vI r16,vI zf],U,U,U,U]<|kn<|ks<|ko [U]<|kn<|wb<|ks<|ko [vB (r16==0),vB (r16==0)]<|kn<|dR H (λuO H=>?_) λuO H=>?_
 ·refine ks<|ko [U]<|qh h.m8 λh=>kA h (pts gQ (.cells #[vI 0,vI 0,vI 0,vI 0,vI 0,vI 0] 47)) λw h=>kn<|wr<|br<|tr<|kC h<|?_;cases H;exact⟨oQ,ow,ur,vM,rfl,h.se 10 [1,2,3,4,5,6,7,8,9]⟩
 refine ks<|ko [vB (r16==3),vB (r16==3)]<|kn<|dR H (λyd H=>?_) λyd H=>?_
 ·refine ks<|qg H λoD H=>ko [U,U,U]<|qh h.m4 λh=>λ_ r=>bx (wn rfl) rfl r rfl (by kernel_rfl) (by kernel_rfl) (v:=vI 14) rfl rfl (by kernel_rfl) (af B0) h (i:=aa.toNat) (f:=2) (p:=(au nU aa)) (q:=({au nU aa with aH:=14})) (bf oD) (by decide) (by kernel_rfl) λw h=>qq r<|kn<|ks<|ko [U,U,U]<|λ_ r=>ld (wn rfl) r (vI ({au nU aa with aH:=14}).bM) (h.cL (sz:=188) (i:=aa.toNat) (af B0) (f:=5) (cU (ef oD)) (by kernel_rfl))<|?_;refine ko [U]<|qh h.m8 λh=>kA h (pts gQ (.cells #[vI 0,vI 0,vI 11,vI ({au nU aa with aH:=14}).bM,vI 1,vI 0] 47)) λw h=>kn<|wr<|br<|tr<|kC h<|qh h.m2.m2 λh=>?_;have RQ:nU.ae.length=(ic nU aa ({au nU aa with aH:=14})).length:=h.eY;replace h:=Fit.jZ RQ (λq_=>rowOf 131 188 (aV B0) (.slice ax q_ bD) (ic nU aa ({au nU aa with aH:=14}))) (λq_=>pts B0 (.cells #[.iface 33 (pA bU 0),.slice eO nU.code.length eW,vI nU.result,vI nU.aR,vI nU.aJ,vI nU.bC,vI nU.aK,.slice ei nU.aP.length eD,.slice cT nU.ak.length bP,.slice ax q_ bD,vI nU.value,vB nU.left] 110)) h;cases H;exact⟨oQ,ow,ur,vM,rfl,h.se 10 [1,3,4,5,0,6,7,8,9]⟩
 refine ks<|ko [vB (r16==2),vB (r16==2)]<|kn<|dR H (λyK H=>?_) λyK H=>?_
 ·refine wq<|qg H λrS H=>fO H λtS HV H=>λ_ r=>fy [(bg ax,aa.toNat*188,[pA B0 0]),(B0,5,[vI nU.bC,vI nU.aK]),(bg ax,aa.toNat*188+1,[vI (au nU aa).bj])] [2,3,4,6,7,10,11,12] 18 h (λh=>⟨((h.pick 4).aQ (sz:=188) (i:=aa.toNat) (af B0) (f:=0) (bf rS) (xs:=[pA B0 0]) (by kernel_rfl)),(h.held 5 rfl),((h.pick 4).aQ (sz:=188) (i:=aa.toNat) (af B0) (f:=1) (bf rS) (xs:=[vI (au nU aa).bj]) (by kernel_rfl)),gE⟩) λw h hd =>qq r<|gg hd 9 [(0,41,pA (bg ax) (aa.toNat*188)),(1,42,pA (bg ax) (aa.toNat*188)),(2,43,pA (bg ax) (aa.toNat*188)),(3,44,pA (bg ax) (aa.toNat*188)),(4,45,pA (bg ax) (aa.toNat*188)),(9,50,pA (bg ax) (aa.toNat*188)),(10,51,pA (bg ax) (aa.toNat*188)),(11,52,pA (bg ax) (aa.toNat*188)),(12,53,pA (bg ax) (aa.toNat*188+1))]<|kx hd 0 8 5 rfl rfl<|gg hd 6 [(6,47,pA B0 0),(7,48,pA B0 5)]<|tL hd 1 5 8 rfl rfl<|kx hd 2 4 13 rfl rfl<|λ_ r=>eZ 14 rfl<|qq r<|eU (EO (H:=HV) (h:=h) :) λw h=>kn<|λ_ r=>xE<|gU 2 15 rfl (wn rfl) r (pA (bg ax) (aa.toNat*188))<|?_;refine λ_ r=>gU 1 16 rfl (wn rfl) r (pA (bg ax) (aa.toNat*188+34))<|?_;refine λ_ r=>eZ 17 rfl<|qh h.m4 λh=>fL (vs:=j0 tS) (f:=34) (i:=aa.toNat) (wn rfl) rfl r rfl (by kernel_rfl) (by kernel_rfl) rfl (by kernel_rfl) (af B0) h (p:=(au nU aa)) (q:=({au nU aa with bS:=tS})) (bf rS) (Nat.le_of_ble_eq_true (by kernel_rfl)) (by kernel_rfl) λw h=>qq r<|kn<|λ_ r=>xE<|ji<|qq r<|tn<|ks<|ko [U,U,U]<|λ_ r=>bx (wn rfl) rfl r rfl (by kernel_rfl) (by kernel_rfl) (v:=vI 4) rfl rfl (by kernel_rfl) (af B0) h (i:=aa.toNat) (f:=2) (p:={au nU aa with bS:=tS}) (q:=({{au nU aa with bS:=tS}with aH:=4})) (cU (ef rS)) (by decide) (by kernel_rfl) λw h=>qq r<|kn<|wq<|λ_ r=>fy [(bg ax,aa.toNat*188+5,[vI ({{au nU aa with bS:=tS}with aH:=4}).bM]),(bg ax,aa.toNat*188+3,[vI ({{au nU aa with bS:=tS}with aH:=4}).aj])] [1,2,5,6] 11 h (λh=>⟨(h.aQ (sz:=188) (i:=aa.toNat) (af B0) (f:=5) (cU ((ef (by simpa [bT]using rS)))) (xs:=[vI ({{au nU aa with bS:=tS}with aH:=4}).bM]) (by kernel_rfl)),(h.aQ (sz:=188) (i:=aa.toNat) (af B0) (f:=3) (cU ((ef (by simpa [bT]using rS)))) (xs:=[vI ({{au nU aa with bS:=tS}with aH:=4}).aj]) (by kernel_rfl)),gE⟩) λw h hd =>qq r<|gg hd 4 [(0,61,pA (bg ax) (aa.toNat*188)),(1,62,pA (bg ax) (aa.toNat*188)),(2,63,pA (bg ax) (aa.toNat*188+5)),(4,65,pA (bg ax) (aa.toNat*188)),(5,66,pA (bg ax) (aa.toNat*188)),(6,67,pA (bg ax) (aa.toNat*188+3)),(8,69,vI (ag p0.ak (au p0 aa).bM.toNat).nr)]<|kx hd 0 3 3 rfl rfl<|kx hd 1 2 7 rfl rfl<|gg hd 1 [(9,70,.agg #[vI 0,vI 0,vI 2,vI ({{au nU aa with bS:=tS}with aH:=4}).bM,vI ({{au nU aa with bS:=tS}with aH:=4}).aj,vI (ag p0.ak (au p0 aa).bM.toNat).nr])]<|λ_ r=>eZ 10 rfl<|qh h.m8 λh=>qq r<|kA h (pts gQ (.cells #[vI 0,vI 0,vI 2,vI ({{au nU aa with bS:=tS}with aH:=4}).bM,vI ({{au nU aa with bS:=tS}with aH:=4}).aj,vI (ag p0.ak (au p0 aa).bM.toNat).nr] 47)) λw h=>kn<|λ_ r=>xE<|ji<|qq r<|tn<|wr<|br<|tr<|kC h<|qh h.m2.m2 λh=>?_
  have RS:nU.ae.length=((ic nU aa ({au nU aa with bS:=tS})).set aa.toNat ({{au nU aa with bS:=tS}with aH:=4})).length:=h.eY;replace h:=Fit.jZ RS (λq_=>rowOf 131 188 (aV B0) (.slice ax q_ bD) ((ic nU aa ({au nU aa with bS:=tS})).set aa.toNat ({{au nU aa with bS:=tS}with aH:=4}))) (λq_=>pts B0 (.cells #[.iface 33 (pA bU 0),.slice eO nU.code.length eW,vI nU.result,vI nU.aR,vI nU.aJ,vI nU.bC,vI nU.aK,.slice ei nU.aP.length eD,.slice cT nU.ak.length bP,.slice ax q_ bD,vI nU.value,vB nU.left] 110)) h;cases H;exact⟨oQ,ow,ur,vM,rfl,h.se 10 [1,3,4,5,0,6,7,8,9]⟩
 refine wk<|bn<|tn<|ks<|qg H λzb H=>ta H λyJ qb Ku H=>ko [U]<|eU (dh (fW:=zb) (H:=Ku) (h:=h) :) λw h=>qh h.m8 λh=>kA h (fe gQ yJ) λw h=>kn<|wr<|kC h<|?_;cases H;exact⟨oQ,ow,ur,vM,rfl,h.se 10 [1,2,3,4,5,6,7,8,9]⟩
def mR(p0:bu)(p1:Int):Option (bu):=
 some ({p0 with aA:=6,iH:=p1})
theorem tD{p0 q0:bu}{p1:Int}{B0:Nat}(H:mR p0 p1=some q0)(h:Fit z (an (gz B0 p0::L)) w) :
 Calls Tryz.prog 224 #[pA B0 0,vI p1] w λe w=>e=.returned (.tuple #[])∧Fit z (an (gz B0 q0::L)) w:=by
 unfold mR at H;refine ke Tryz.func224 11 rfl λj=>wl<|ko [U,U,U,U,U]<|kS h 6 (gz B0 {p0 with iH:=p1}) λw h=>ko [U,U]<|kS h 4 (gz B0 {p0 with aA:=6,iH:=p1}) λw h=>kl<|?_;cases H;exact Jm h
def je(p0:bu):Option (Int):=
 if p0.bR≠0 then some ((wi (p0.fB+p0.cK)).tmod p0.bR)else none
theorem oX{p0:bu}{B0:Nat}{r0:Int}(H:je p0=some r0)(h:Fit z (an (gz B0 p0::L)) w) :
 Calls Tryz.prog 228 #[pA B0 0] w λe w=>e=.returned (vI r0)∧Fit z (an (gz B0 p0::L)) w:=by
 unfold je at H;refine ke Tryz.func228 18 rfl λj=>ks<|ko [U]<|kn<|wq<|qg H λc1 H=>λ_ r=>fy [(B0,2,[vI p0.fB]),(B0,5,[vI p0.cK]),(B0,1,[vI p0.bR])] [1,2,5,6,8,10,11,12] 16 h (λh=>⟨⟨h.cell 2 rfl,gE⟩,⟨h.cell 5 rfl,gE⟩,⟨h.cell 1 rfl,gE⟩,gE⟩) λw h hd =>qq r<|gg hd 6 [(0,3,pA B0 0),(1,4,pA B0 0),(2,5,pA B0 2),(4,7,pA B0 0),(5,8,pA B0 0),(6,9,pA B0 5),(9,12,pA B0 0),(10,13,pA B0 0),(11,14,pA B0 0),(12,15,pA B0 1)]<|kx hd 0 5 3 rfl rfl<|kx hd 1 4 7 rfl rfl<|gg hd 3 [(8,11,vI (wi (p0.fB+p0.cK)))]<|kx hd 2 2 13 rfl rfl<|λ_ r=>mJ hd 1 14 rfl (wn rfl) r (vI ((wi (p0.fB+p0.cK)).tmod p0.bR)) (hrun:=λw=>LV rfl (by kernel_rfl) (by kernel_rfl) c1)<|?_;refine gg hd 0 [(15,2,vI ((wi (p0.fB+p0.cK)).tmod p0.bR))]<|λ_ r=>ji<|qq r<|tn<|wr<|?_;cases H;exact gu h
def vu(p0:aI):Option (aC):=
 eL (lT 4 2 p0 0) (λr3=>some r3)
theorem Dz{p0:aI}{r0:aC}(H:vu p0=some r0)(h:Fit z (an (L)) w) :
 Calls Tryz.prog 234 #[fV p0] w λe w=>e=.returned (dX r0)∧Fit z (an (L)) w:=by
 unfold vu at H;refine ke Tryz.func234 5 rfl λj=>ks<|kN h (lW p0) 118 λb1 w h=>kN h (#[vI 0,vI 0,vI 0,vI 0,vI 0,vI 0,vI 0,vI 0,vI 0,vI 0,vI 0,vI 0,vI 0,vB false,vI 0,vI 0]) 120 λb2 w h=>kn<|ks<|kM (h.pick 1)<|fO H λr3 e4 H=>eU (qB (H:=e4) (h:=h) :) λw h=>kA h (cZ b2 r3) λw h=>kn<|wr<|kC h<|?_;cases H;exact⟨rfl,h.se 2 []⟩
def ig(p0:bu):Option (bu):=
 (if(wi (p0.cK+1))≥p0.bR then some ({p0 with aA:=5,cK:=wi (p0.cK+1)})else eL (je ({p0 with aA:=4,cK:=wi (p0.cK+1)})) (λr4=>if bT r4 64 then eL (vu (ag p0.aP r4.toNat)) (λr7=>some ({p0 with aA:=4,cK:=wi (p0.cK+1),look:=r7}))else none))
theorem tE{p0 r0:bu}(H:ig p0=some r0)(h:Fit z (an (L)) w) :
 Calls Tryz.prog 225 #[gL p0] w λe w=>e=.returned (gL r0)∧Fit z (an (L)) w:=by
 unfold ig at H;refine ke Tryz.func225 30 rfl λj=>ks<|kN h (lM p0) 129 λb1 w h=>kN h (([vI 0,vI 0,vI 0,vI 0,vI 0,vI 0,vI 0,vI 0,vI 0]++jr 64 bp (List.replicate 64 (⟨0,0⟩:aI))++bw (⟨0,0,0,0,0,0,0,0,0,0,0,0,0,false,0,0⟩:aC)).toArray) 129 λb2 w h=>kn<|ks<|ko [U,U]<|kL (h.pick 1) 5<|ko [vI (wi (p0.cK+1)),U,U]<|qh h.m1 λh=>kS h 5 (gz b1 {p0 with cK:=wi (p0.cK+1)}) λw h=>kn<|ks<|ko [U,U]<|kS h 4 (gz b1 {p0 with aA:=4,cK:=wi (p0.cK+1)}) λw h=>kn<|wq<|ks<|ko [U,U]<|kL h 5<|ko [U,U,U]<|kL h 1<|ko [vB (decide ((wi (p0.cK+1))≥p0.bR))]<|kn<|dR H (λc3 H=>?_) λc3 H=>?_
 ·refine ks<|ko [U,U]<|kS h 4 (gz b1 {p0 with aA:=5,cK:=wi (p0.cK+1)}) λw h=>kn<|ks<|kM h<|qh h.m1 λh=>kA h (gz b2 {p0 with aA:=5,cK:=wi (p0.cK+1)}) λw h=>kn<|wr<|tr<|kC h<|?_;cases H;exact⟨rfl,h.se 2 []⟩
 refine wk<|tn<|ks<|fO H λr4 e5 H=>ko [U]<|eU (oX (H:=e5) (h:=h) :) λw h=>qg H λc6 H=>ko [U]<|kp (pA b1 (9+r4.toNat*2)) (Jg (k:=.i64) (E:=118) (N:=64) rfl (by kernel_rfl) (by kernel_rfl) (by kernel_rfl) (by kernel_rfl) c6)<|λ_ r=>tK (wn rfl) r (fV (ag p0.aP r4.toNat)) (cs:=jJ (ag p0.aP r4.toNat)) (h.Mk (xs:=jJ (ag p0.aP r4.toNat)) (OD (C:=[vI p0.bH,vI p0.bR,vI p0.fB,vI p0.cP,vI 4,vI (wi (p0.cK+1)),vI p0.iH,vI p0.dy,vI p0.eC]++jr 64 bp p0.aP++bw p0.look) (pre:=[vI p0.bH,vI p0.bR,vI p0.fB,vI p0.cP,vI 4,vI (wi (p0.cK+1)),vI p0.iH,vI p0.dy,vI p0.eC]) (post:=bw p0.look) rfl fa rfl (oU c6) rfl))<|?_;refine fO H λr7 e8 H=>eU (Dz (H:=e8) (h:=h) :) λw h=>ko [U]<|λ_ r=>Re (wn rfl) r h 137 (iq r7) (pts b1 (.cells (lM {p0 with aA:=4,cK:=wi (p0.cK+1),look:=r7}) 129)) λw h=>qq r<|kn<|ks<|kM h<|qh h.m1 λh=>kA h (gz b2 {p0 with aA:=4,cK:=wi (p0.cK+1),look:=r7}) λw h=>kn<|wr<|kC h<|?_;cases H;exact⟨rfl,h.se 2 []⟩
def da(p0:bu)(p1:Int)(p2:Int):Option (bu):=
 some ({p0 with aA:=0,dy:=p1,eC:=p2})
theorem ga{p0 q0:bu}{p1 p2:Int}{B0:Nat}(H:da p0 p1 p2=some q0)(h:Fit z (an (gz B0 p0::L)) w) :
 Calls Tryz.prog 213 #[pA B0 0,vI p1,vI p2] w λe w=>e=.returned (.tuple #[])∧Fit z (an (gz B0 q0::L)) w:=by
 unfold da at H;refine ke Tryz.func213 17 rfl λj=>wl<|ko [U,U,U,U,U,U,U]<|kS h 4 (gz B0 {p0 with aA:=0}) λw h=>ko [U,U]<|kS h 7 (gz B0 {p0 with aA:=0,dy:=p1}) λw h=>ko [U,U]<|kS h 8 (gz B0 {p0 with aA:=0,dy:=p1,eC:=p2}) λw h=>kl<|?_;cases H;exact Jm h
def jv(p0:bu)(p1:ah):Option (bu×ah):=
 pL (eG p1 p0.look) (λr7 S8=>pL (lP r7) (λgV lI=>(if gV=0 then some ({p0 with look:=r7},S8)else(if gV=7 then eL (mR ({p0 with look:=r7}) 16) (λlY=>some (lY,S8))else(if gV=8 then eL (ig ({p0 with look:=r7})) (λH7=>some (H7,S8))else eL (da ({p0 with look:=r7}) 1 0) (λQz=>some (Qz,S8)))))))
theorem ux{p0 r0:bu}{p1 q1:ah}{B1 er eN:Nat}{eu dU:Option Addr}(H:jv p0 p1=some (r0,q1))(h:Fit z (an (dx B1 p1 eu er dU eN::iC eu er p1.cell::bY dU eN p1.log::L)) w) :
 Calls Tryz.prog 214 #[gL p0,.iface 33 (pA B1 0)] w λe w=>∃pq pz pB pC,e=.returned (gL r0)∧Fit z (an (dx B1 q1 pq pz pB pC::iC pq pz q1.cell::bY pB pC q1.log::L)) w:=by
 unfold jv at H;refine ke Tryz.func214 32 rfl λj=>ks<|kN h (lM p0) 129 λb5 w h=>kN h (([vI 0,vI 0,vI 0,vI 0,vI 0,vI 0,vI 0,vI 0,vI 0]++jr 64 bp (List.replicate 64 (⟨0,0⟩:aI))++bw (⟨0,0,0,0,0,0,0,0,0,0,0,0,0,false,0,0⟩:aC)).toArray) 129 λb6 w h=>kn<|ks<|ko [U,U]<|λ_ r=>tK (wn rfl) r (dX p0.look) (cs:=iq p0.look) ((h.pick 1).held 137 rfl)<|?_;refine ta H λr7 S8 e9 H=>qh h.m4.m4.m4 λh=>jz (sL (H:=e9) (h:=h) :) λxV tN vZ sU w h=>ko [U]<|qh h.m4 λh=>λ_ r=>Re (wn rfl) r h 137 (iq r7) (pts b5 (.cells (lM {p0 with look:=r7}) 129)) λw h=>qq r<|kn<|ks<|ko [U]<|λ_ r=>tK (wn rfl) r (dX r7) (cs:=iq r7) (h.held 137 rfl)<|?_;refine ta H λgV lI RE H=>eU (vP (H:=RE) (h:=h) :) λw h=>ko [.tuple #[vI gV,vI lI],U,U,U,U]<|kn<|wq<|ks<|ko [U]<|kn<|wb<|ks<|ko [vB (gV==0),vB (gV==0)]<|kn<|dR H (λyc H=>?_) λyc H=>?_
 ·refine wk<|bn<|tn<|ks<|kM h<|qh h.m4 λh=>kA h (gz b6 {p0 with look:=r7}) λw h=>kn<|wr<|kC h<|?_;cases H;exact⟨xV,tN,vZ,sU,rfl,h.se 5 [2,3,4]⟩
 refine ks<|ko [vB (gV==7),vB (gV==7)]<|kn<|dR H (λDp H=>?_) λDp H=>?_
 ·refine wl<|fO H λlY RD H=>ko [U]<|eU (tD (H:=RD) (h:=h) :) λw h=>kl<|bn<|tn<|ks<|kM h<|qh h.m4 λh=>kA h (gz b6 lY) λw h=>kn<|wr<|kC h<|?_;cases H;exact⟨xV,tN,vZ,sU,rfl,h.se 5 [2,3,4]⟩
 refine ks<|ko [vB (gV==8),vB (gV==8)]<|kn<|dR H (λoO H=>?_) λoO H=>?_
 ·refine ks<|kM h<|fO H λH7 wT H=>eU (tE (H:=wT) (h:=h) :) λw h=>qh h.m4 λh=>kA h (gz b6 H7) λw h=>kn<|wr<|br<|tr<|kC h<|?_;cases H;exact⟨xV,tN,vZ,sU,rfl,h.se 5 [2,3,4]⟩
 refine wl<|fO H λQz U5 H=>ko [U]<|eU (ga (H:=U5) (h:=h) :) λw h=>kl<|bn<|tn<|ks<|kM h<|qh h.m4 λh=>kA h (gz b6 Qz) λw h=>kn<|wr<|kC h<|?_;cases H;exact⟨xV,tN,vZ,sU,rfl,h.se 5 [2,3,4]⟩
def ku(p0:bu)(p1:Int):Option (Int):=
 some (wi ((wi (p0.bH+2))+p1))
theorem n9{p0:bu}{p1 r0:Int}{B0:Nat}(H:ku p0 p1=some r0)(h:Fit z (an (gz B0 p0::L)) w) :
 Calls Tryz.prog 227 #[pA B0 0,vI p1] w λe w=>e=.returned (vI r0)∧Fit z (an (gz B0 p0::L)) w:=by
 unfold ku at H;refine ke Tryz.func227 13 rfl λj=>ks<|ko [U]<|kn<|ks<|ko [U,U,U,U]<|kL h 0<|ko [vI (wi (p0.bH+2)),U,vI (wi ((wi (p0.bH+2))+p1)),vI (wi ((wi (p0.bH+2))+p1))]<|kn<|wr<|?_;cases H;exact gu h
def bV(p0:bu)(p1:ah):Option (Int×Int×ah):=
 (if p0.aA=1 then eL (ku p0 p0.fB) (λr8=>pL (di p1 r8 1) (λzR vn=>some (0,zR,vn)))else(if p0.aA=2 then nC (gN p1 (wi (p0.bH+0)) 1) (λvU nq dQ=>some (vU,nq,dQ))else(if p0.aA=3 then nC (fH p1 (wi (p0.bH+1))) (λLK yM Vc=>some (LK,yM,Vc))else(if p0.aA=5 then eL (ku p0 p0.fB) (λqt=>nC (fH p1 qt) (λHw QG EP=>some (Hw,QG,EP)))else(if p0.aA=6 then eL (ku p0 p0.fB) (λDx=>nC (lA p1 Dx 1 0) (λVo QH KJ=>(if Vo=true then some (1,QH,KJ)else some (0,QH,KJ))))else(if p0.aA=7 then nC (gN p1 (wi (p0.bH+0)) (-1)) (λFx RV S61=>some (Fx,RV,S61))else(if p0.aA=8 then nC (fH p1 (wi (p0.bH+0))) (λOb ER M6=>some (Ob,ER,M6))else(if p0.aA=9 then eL (je p0) (λGs=>eL (ku p0 Gs) (λVv=>nC (lA p1 Vv 1 0) (λQF QI RF=>(if QF=true then some (1,QI,RF)else some (0,QI,RF)))))else pL (di p1 (wi (p0.bH+1)) 1) (λZk S91=>some (0,Zk,S91))))))))))
theorem tF{p0:bu}{p1 q1:ah}{B0 B1 er eN:Nat}{eu dU:Option Addr}{r0 r1:Int}(H:bV p0 p1=some (r0,r1,q1))(h:Fit z (an (gz B0 p0::dx B1 p1 eu er dU eN::iC eu er p1.cell::bY dU eN p1.log::L)) w) :
 Calls Tryz.prog 215 #[pA B0 0,.iface 33 (pA B1 0)] w λe w=>∃pq pz pB pC,e=.returned (.tuple #[vI r0,vI r1])∧Fit z (an (gz B0 p0::dx B1 q1 pq pz pB pC::iC pq pz q1.cell::bY pB pC q1.log::L)) w:=by
 unfold bV at H;refine ke Tryz.func215 129 rfl λj=>ks<|kN h (#[pA B0 0]) 276 λb5 w h=>kN h (#[.iface 33 (pA B1 0)]) 101 λb6 w h=>ko [U,U]<|kn<|ks<|ko [U,U]<|kn<|wq<|ks<|kL (h.pick 1) 0<|ko [U,U]<|kL (h.pick 2) 4<|kn<|wb<|ks<|ko [vB (p0.aA==1),vB (p0.aA==1)]<|kn<|dR H (λc7 H=>?_) λc7 H=>?_
 ·refine wq<|fO H λr8 e9 H=>ta H λzR vn Aa H=>λ_ r=>fy [(b6,0,[.iface 33 (pA B1 0)]),(b5,0,[pA B0 0]),(b5,0,[pA B0 0]),(B0,2,[vI p0.fB])] [3,4,6,7,8] 13 h (λh=>⟨⟨h.cell 0 rfl,gE⟩,⟨(h.pick 1).cell 0 rfl,gE⟩,⟨(h.pick 1).cell 0 rfl,gE⟩,⟨(h.pick 2).cell 2 rfl,gE⟩,gE⟩) λw h hd =>qq r<|kx hd 0 12 0 rfl rfl<|gg hd 9 [(7,21,.func (.method "Store") #[.iface 33 (pA B1 0)] #[]),(8,22,.func (.method "Store") #[.iface 33 (pA B1 0)] #[]),(9,23,.iface 33 (pA B1 0))]<|kx hd 1 8 1 rfl rfl<|kx hd 2 7 2 rfl rfl<|gg hd 5 [(3,17,pA B0 0),(4,18,pA B0 2)]<|kx hd 3 4 5 rfl rfl<|λ_ r=>eZ 6 rfl<|qh h.m2 λh=>qq r<|eU (n9 (H:=e9) (h:=h) :) λw h=>kn<|λ_ r=>eE ⟨⟨(h.pick 1).cell 0 rfl,gE⟩,⟨(h.pick 2).cell 0 rfl,gE⟩,⟨(h.pick 2).cell 0 rfl,gE⟩,⟨h.cell 2 rfl,gE⟩,gE⟩ λhd =>qq r<|λ_ r=>eZ 10 rfl<|qh h.m5.m5.m5 λh=>qq r<|jz (eF (H:=Aa) (h:=h) :) λsU vo zk xG w h=>kn<|λ_ r=>xE<|gU 1 11 rfl (wn rfl) r (vI 0)<|?_;refine λ_ r=>gU 0 12 rfl (wn rfl) r (vI zR)<|?_;refine λ_ r=>ji<|qq r<|tn<|wr<|br<|tr<|?_;cases H;exact we sU vo zk xG (h.se 6 [3,0,1,2])
 refine ks<|ko [vB (p0.aA==2),vB (p0.aA==2)]<|kn<|dR H (λyc H=>?_) λyc H=>?_
 ·refine wq<|ql H λvU nq dQ HW H=>λ_ r=>fy [(b6,0,[.iface 33 (pA B1 0)]),(b5,0,[pA B0 0]),(B0,0,[vI p0.bH])] [2,3,4,6,7,8] 15 h (λh=>⟨⟨h.cell 0 rfl,gE⟩,⟨(h.pick 1).cell 0 rfl,gE⟩,⟨(h.pick 2).cell 0 rfl,gE⟩,gE⟩) λw h hd =>qq r<|kx hd 0 14 0 rfl rfl<|gg hd 11 [(7,34,.func (.method "Add") #[.iface 33 (pA B1 0)] #[]),(8,35,.func (.method "Add") #[.iface 33 (pA B1 0)] #[]),(9,36,.iface 33 (pA B1 0))]<|kx hd 1 10 1 rfl rfl<|gg hd 7 [(2,29,pA B0 0),(3,30,pA B0 0),(4,31,pA B0 0)]<|kx hd 2 6 5 rfl rfl<|gg hd 5 [(6,33,vI (wi (p0.bH+0)))]<|λ_ r=>eZ 10 rfl<|qh h.m5.m5.m5 λh=>qq r<|jz (kJ (H:=HW) (h:=h) :) λow ur vM xn w h=>kn<|λ_ r=>xE<|gU 3 11 rfl (wn rfl) r (vI vU)<|?_;refine λ_ r=>gU 2 12 rfl (wn rfl) r (vI nq)<|?_;refine λ_ r=>gU 1 13 rfl (wn rfl) r (vI vU)<|?_;refine λ_ r=>gU 0 14 rfl (wn rfl) r (vI nq)<|?_;refine λ_ r=>ji<|qq r<|tn<|wr<|br<|tr<|?_;cases H;exact we ow ur vM xn (h.se 6 [5,0,1,2])
 refine ks<|ko [vB (p0.aA==3),vB (p0.aA==3)]<|kn<|dR H (λyd H=>?_) λyd H=>?_
 ·refine wq<|ql H λLK yM Vc LL H=>λ_ r=>fy [(b6,0,[.iface 33 (pA B1 0)]),(b5,0,[pA B0 0]),(B0,0,[vI p0.bH])] [2,3,4,6,7,8] 15 h (λh=>⟨⟨h.cell 0 rfl,gE⟩,⟨(h.pick 1).cell 0 rfl,gE⟩,⟨(h.pick 2).cell 0 rfl,gE⟩,gE⟩) λw h hd =>qq r<|kx hd 0 14 0 rfl rfl<|gg hd 11 [(7,49,.func (.method "Load") #[.iface 33 (pA B1 0)] #[]),(8,50,.func (.method "Load") #[.iface 33 (pA B1 0)] #[]),(9,51,.iface 33 (pA B1 0))]<|kx hd 1 10 1 rfl rfl<|gg hd 7 [(2,44,pA B0 0),(3,45,pA B0 0),(4,46,pA B0 0)]<|kx hd 2 6 5 rfl rfl<|gg hd 5 [(6,48,vI (wi (p0.bH+1)))]<|λ_ r=>eZ 10 rfl<|qh h.m5.m5.m5 λh=>qq r<|jz (gj (H:=LL) (h:=h) :) λC9 qQ W0 W1 w h=>kn<|λ_ r=>xE<|gU 3 11 rfl (wn rfl) r (vI LK)<|?_;refine λ_ r=>gU 2 12 rfl (wn rfl) r (vI yM)<|?_;refine λ_ r=>gU 1 13 rfl (wn rfl) r (vI LK)<|?_;refine λ_ r=>gU 0 14 rfl (wn rfl) r (vI yM)<|?_;refine λ_ r=>ji<|qq r<|tn<|wr<|br<|tr<|?_;cases H;exact we C9 qQ W0 W1 (h.se 6 [5,0,1,2])
 refine ks<|ko [vB (p0.aA==5),vB (p0.aA==5)]<|kn<|dR H (λEy H=>?_) λEy H=>?_
 ·refine wq<|fO H λqt Ku H=>ql H λHw QG EP Vp H=>λ_ r=>fy [(b6,0,[.iface 33 (pA B1 0)]),(b5,0,[pA B0 0]),(b5,0,[pA B0 0]),(B0,2,[vI p0.fB])] [3,4,6,7,8] 15 h (λh=>⟨⟨h.cell 0 rfl,gE⟩,⟨(h.pick 1).cell 0 rfl,gE⟩,⟨(h.pick 1).cell 0 rfl,gE⟩,⟨(h.pick 2).cell 2 rfl,gE⟩,gE⟩) λw h hd =>qq r<|kx hd 0 14 0 rfl rfl<|gg hd 11 [(7,64,.func (.method "Load") #[.iface 33 (pA B1 0)] #[]),(8,65,.func (.method "Load") #[.iface 33 (pA B1 0)] #[]),(9,66,.iface 33 (pA B1 0))]<|kx hd 1 10 1 rfl rfl<|kx hd 2 9 2 rfl rfl<|gg hd 7 [(3,60,pA B0 0),(4,61,pA B0 2)]<|kx hd 3 6 5 rfl rfl<|λ_ r=>eZ 6 rfl<|qh h.m2 λh=>qq r<|eU (n9 (H:=Ku) (h:=h) :) λw h=>kn<|λ_ r=>eE ⟨⟨(h.pick 1).cell 0 rfl,gE⟩,⟨(h.pick 2).cell 0 rfl,gE⟩,⟨(h.pick 2).cell 0 rfl,gE⟩,⟨h.cell 2 rfl,gE⟩,gE⟩ λhd =>qq r<|λ_ r=>eZ 10 rfl<|qh h.m5.m5.m5 λh=>qq r<|jz (gj (H:=Vp) (h:=h) :) λDZ KQ x44 OU w h=>kn<|λ_ r=>xE<|gU 3 11 rfl (wn rfl) r (vI Hw)<|?_;refine λ_ r=>gU 2 12 rfl (wn rfl) r (vI QG)<|?_;refine λ_ r=>gU 1 13 rfl (wn rfl) r (vI Hw)<|?_;refine λ_ r=>gU 0 14 rfl (wn rfl) r (vI QG)<|?_;refine λ_ r=>ji<|qq r<|tn<|wr<|br<|tr<|?_;cases H;exact we DZ KQ x44 OU (h.se 6 [3,0,1,2])
 refine ks<|ko [vB (p0.aA==6),vB (p0.aA==6)]<|kn<|dR H (λPf H=>?_) λPf H=>?_
 ·refine ks<|ko [U]<|kL (h.pick 1) 0<|ko [U,U]<|kL (h.pick 2) 2<|?_;intro _ r;refine yn (wn rfl) rfl rfl r (f:=226) (args:=#[vI p0.fB,pA b6 0,pA b5 0]) (by kernel_rfl) ?_;clear r;refine enter Tryz.func226 rfl 22 rfl rfl [(0,vI p0.fB),(1,pA b6 0),(2,pA b5 0)] ⟨by kernel_rfl,by kernel_rfl,by kernel_rfl,gE⟩ ?_;intro j a r;refine qq r<|ks<|ko [U,U]<|kn<|wq<|fO H λDx e48 H=>ql H λVo QH KJ YR H=>λ_ r=>fy [(b6,0,[.iface 33 (pA B1 0)]),(b5,0,[pA B0 0])] [3,4,5] 13 h (λh=>⟨⟨h.cell 0 rfl,gE⟩,⟨(h.pick 1).cell 0 rfl,gE⟩,gE⟩) λw h hd =>qq r<|gg hd 12 [(2,11,vI p0.fB)]<|kx hd 0 11 0 rfl rfl<|gg hd 8 [(4,13,.func (.method "CAS") #[.iface 33 (pA B1 0)] #[]),(5,14,.func (.method "CAS") #[.iface 33 (pA B1 0)] #[]),(6,15,.iface 33 (pA B1 0))]<|kx hd 1 7 1 rfl rfl<|λ_ r=>eZ 3 rfl<|qh h.m2 λh=>qq r<|eU (n9 (H:=e48) (h:=h) :) λw h=>kn<|λ_ r=>eE ⟨⟨(h.pick 1).cell 0 rfl,gE⟩,⟨(h.pick 2).cell 0 rfl,gE⟩,gE⟩ λhd =>qq r<|λ_ r=>eZ 7 rfl<|qh h.m5.m5.m5 λh=>qq r<|jz (pQ (H:=YR) (h:=h) :) λFt Fu QA W9 w h=>kn<|λ_ r=>xE<|gU 4 8 rfl (wn rfl) r (.tuple #[vB Vo,vI QH])<|?_;refine λ_ r=>gU 3 9 rfl (wn rfl) r (vB Vo)<|?_;refine λ_ r=>gU 2 10 rfl (wn rfl) r (vI QH)<|?_;refine λ_ r=>gU 1 11 rfl (wn rfl) r (vB Vo)<|?_;refine λ_ r=>gU 0 12 rfl (wn rfl) r (vI QH)<|?_;refine λ_ r=>ji<|qq r<|tn<|wq<|ks<|ko [U]<|kn<|De H (λOV H=>?_) λOV H=>?_
  ·refine ks<|ko [U,U,U]<|kn<|wr<|tr<|λ_ r=>lC (v:=vI 1) (v':=vI QH) rfl r (by kernel_rfl) (by kernel_rfl)<|?_;refine⟨_,rfl,?_⟩;clear r;intro a r;refine qq r<|ko [U,U,U,U]<|kn<|wr<|br<|tr<|?_;cases H;exact we Ft Fu QA W9 (h.se 6 [3,0,1,2])
  refine wk<|tn<|ks<|ko [U,U,U]<|kn<|wr<|λ_ r=>lC (v:=vI 0) (v':=vI QH) rfl r (by kernel_rfl) (by kernel_rfl)<|?_;refine⟨_,rfl,?_⟩;clear r;intro a r;refine qq r<|ko [U,U,U,U]<|kn<|wr<|br<|tr<|?_;cases H;exact we Ft Fu QA W9 (h.se 6 [3,0,1,2])
 refine ks<|ko [vB (p0.aA==7),vB (p0.aA==7)]<|kn<|dR H (λXa H=>?_) λXa H=>?_
 ·refine wq<|ql H λFx RV S61 e62 H=>λ_ r=>fy [(b6,0,[.iface 33 (pA B1 0)]),(b5,0,[pA B0 0]),(B0,0,[vI p0.bH])] [2,3,4,6,7,8] 15 h (λh=>⟨⟨h.cell 0 rfl,gE⟩,⟨(h.pick 1).cell 0 rfl,gE⟩,⟨(h.pick 2).cell 0 rfl,gE⟩,gE⟩) λw h hd =>qq r<|kx hd 0 14 0 rfl rfl<|gg hd 11 [(7,89,.func (.method "Add") #[.iface 33 (pA B1 0)] #[]),(8,90,.func (.method "Add") #[.iface 33 (pA B1 0)] #[]),(9,91,.iface 33 (pA B1 0))]<|kx hd 1 10 1 rfl rfl<|gg hd 7 [(2,84,pA B0 0),(3,85,pA B0 0),(4,86,pA B0 0)]<|kx hd 2 6 5 rfl rfl<|gg hd 5 [(6,88,vI (wi (p0.bH+0)))]<|λ_ r=>eZ 10 rfl<|qh h.m5.m5.m5 λh=>qq r<|jz (kJ (H:=e62) (h:=h) :) λKR KS Aj Gq w h=>kn<|λ_ r=>xE<|gU 3 11 rfl (wn rfl) r (vI Fx)<|?_;refine λ_ r=>gU 2 12 rfl (wn rfl) r (vI RV)<|?_;refine λ_ r=>gU 1 13 rfl (wn rfl) r (vI Fx)<|?_;refine λ_ r=>gU 0 14 rfl (wn rfl) r (vI RV)<|?_;refine λ_ r=>ji<|qq r<|tn<|wr<|br<|tr<|?_;cases H;exact we KR KS Aj Gq (h.se 6 [5,0,1,2])
 refine ks<|ko [vB (p0.aA==8),vB (p0.aA==8)]<|kn<|dR H (λVe H=>?_) λVe H=>?_
 ·refine wq<|ql H λOb ER M6 e71 H=>λ_ r=>fy [(b6,0,[.iface 33 (pA B1 0)]),(b5,0,[pA B0 0]),(B0,0,[vI p0.bH])] [2,3,4,6,7,8] 15 h (λh=>⟨⟨h.cell 0 rfl,gE⟩,⟨(h.pick 1).cell 0 rfl,gE⟩,⟨(h.pick 2).cell 0 rfl,gE⟩,gE⟩) λw h hd =>qq r<|kx hd 0 14 0 rfl rfl<|gg hd 11 [(7,104,.func (.method "Load") #[.iface 33 (pA B1 0)] #[]),(8,105,.func (.method "Load") #[.iface 33 (pA B1 0)] #[]),(9,106,.iface 33 (pA B1 0))]<|kx hd 1 10 1 rfl rfl<|gg hd 7 [(2,99,pA B0 0),(3,100,pA B0 0),(4,101,pA B0 0)]<|kx hd 2 6 5 rfl rfl<|gg hd 5 [(6,103,vI (wi (p0.bH+0)))]<|λ_ r=>eZ 10 rfl<|qh h.m5.m5.m5 λh=>qq r<|jz (gj (H:=e71) (h:=h) :) λx72 KT KU KV w h=>kn<|λ_ r=>xE<|gU 3 11 rfl (wn rfl) r (vI Ob)<|?_;refine λ_ r=>gU 2 12 rfl (wn rfl) r (vI ER)<|?_;refine λ_ r=>gU 1 13 rfl (wn rfl) r (vI Ob)<|?_;refine λ_ r=>gU 0 14 rfl (wn rfl) r (vI ER)<|?_;refine λ_ r=>ji<|qq r<|tn<|wr<|br<|tr<|?_;cases H;exact we x72 KT KU KV (h.se 6 [5,0,1,2])
 refine ks<|ko [vB (p0.aA==9),vB (p0.aA==9)]<|kn<|dR H (λPk H=>?_) λPk H=>?_
 ·refine ks<|ko [U]<|kL (h.pick 1) 0<|fO H λGs Zl H=>qh h.m2 λh=>eU (oX (H:=Zl) (h:=h) :) λw h=>?_;intro _ r;refine yn (wn rfl) rfl rfl r (f:=226) (args:=#[vI Gs,pA b6 0,pA b5 0]) (by kernel_rfl) ?_;clear r;refine enter Tryz.func226 rfl 22 rfl rfl [(0,vI Gs),(1,pA b6 0),(2,pA b5 0)] ⟨by kernel_rfl,by kernel_rfl,by kernel_rfl,gE⟩ ?_;intro j a r;refine qq r<|ks<|ko [U,U]<|kn<|wq<|fO H λVv e80 H=>ql H λQF QI RF U8 H=>λ_ r=>fy [(b6,0,[.iface 33 (pA B1 0)]),(b5,0,[pA B0 0])] [3,4,5] 13 h (λh=>⟨⟨(h.pick 1).cell 0 rfl,gE⟩,⟨(h.pick 2).cell 0 rfl,gE⟩,gE⟩) λw h hd =>qq r<|gg hd 12 [(2,11,vI Gs)]<|kx hd 0 11 0 rfl rfl<|gg hd 8 [(4,13,.func (.method "CAS") #[.iface 33 (pA B1 0)] #[]),(5,14,.func (.method "CAS") #[.iface 33 (pA B1 0)] #[]),(6,15,.iface 33 (pA B1 0))]<|kx hd 1 7 1 rfl rfl<|λ_ r=>eZ 3 rfl<|qq r<|eU (n9 (H:=e80) (h:=h) :) λw h=>kn<|λ_ r=>eE ⟨⟨(h.pick 1).cell 0 rfl,gE⟩,⟨(h.pick 2).cell 0 rfl,gE⟩,gE⟩ λhd =>qq r<|λ_ r=>eZ 7 rfl<|qh h.m5.m5.m5 λh=>qq r<|jz (pQ (H:=U8) (h:=h) :) λHs Ht Hu x88 w h=>kn<|λ_ r=>xE<|gU 4 8 rfl (wn rfl) r (.tuple #[vB QF,vI QI])<|?_;refine λ_ r=>gU 3 9 rfl (wn rfl) r (vB QF)<|?_;refine λ_ r=>gU 2 10 rfl (wn rfl) r (vI QI)<|?_;refine λ_ r=>gU 1 11 rfl (wn rfl) r (vB QF)<|?_;refine λ_ r=>gU 0 12 rfl (wn rfl) r (vI QI)<|?_;refine λ_ r=>ji<|qq r<|tn<|wq<|ks<|ko [U]<|kn<|De H (λZm H=>?_) λZm H=>?_
  ·refine ks<|ko [U,U,U]<|kn<|wr<|tr<|λ_ r=>lC (v:=vI 1) (v':=vI QI) rfl r (by kernel_rfl) (by kernel_rfl)<|?_;refine⟨_,rfl,?_⟩;clear r;intro a r;refine qq r<|ko [U,U,U,U]<|kn<|wr<|br<|tr<|?_;cases H;exact we Hs Ht Hu x88 (h.se 6 [3,0,1,2])
  refine wk<|tn<|ks<|ko [U,U,U]<|kn<|wr<|λ_ r=>lC (v:=vI 0) (v':=vI QI) rfl r (by kernel_rfl) (by kernel_rfl)<|?_;refine⟨_,rfl,?_⟩;clear r;intro a r;refine qq r<|ko [U,U,U,U]<|kn<|wr<|br<|tr<|?_;cases H;exact we Hs Ht Hu x88 (h.se 6 [3,0,1,2])
 refine wk<|bn<|tn<|wq<|ta H λZk S91 e92 H=>λ_ r=>fy [(b6,0,[.iface 33 (pA B1 0)]),(b5,0,[pA B0 0]),(B0,0,[vI p0.bH])] [2,3,4,6,7,8] 13 h (λh=>⟨⟨h.cell 0 rfl,gE⟩,⟨(h.pick 1).cell 0 rfl,gE⟩,⟨(h.pick 2).cell 0 rfl,gE⟩,gE⟩) λw h hd =>qq r<|kx hd 0 12 0 rfl rfl<|gg hd 9 [(7,125,.func (.method "Store") #[.iface 33 (pA B1 0)] #[]),(8,126,.func (.method "Store") #[.iface 33 (pA B1 0)] #[]),(9,127,.iface 33 (pA B1 0))]<|kx hd 1 8 1 rfl rfl<|gg hd 5 [(2,120,pA B0 0),(3,121,pA B0 0),(4,122,pA B0 0)]<|kx hd 2 4 5 rfl rfl<|gg hd 3 [(6,124,vI (wi (p0.bH+1)))]<|λ_ r=>eZ 10 rfl<|qh h.m5.m5.m5 λh=>qq r<|jz (eF (H:=e92) (h:=h) :) λYZ Y8 Il Im w h=>kn<|λ_ r=>xE<|gU 1 11 rfl (wn rfl) r (vI 0)<|?_;refine λ_ r=>gU 0 12 rfl (wn rfl) r (vI Zk)<|?_;refine λ_ r=>ji<|qq r<|tn<|wr<|?_;cases H;exact we YZ Y8 Il Im (h.se 6 [5,0,1,2])
def fq(p0:bu)(p1:Int):Option (bu):=
 (if p0.aA=1 then some ({p0 with aA:=2})else(if p0.aA=2 then some ({p0 with aA:=3})else(if p0.aA=3 then(if p1=1 then eL (mR p0 17) (λS7=>some S7)else eL (ig p0) (λr9=>some r9))else(if p0.aA=5 then(if p1=1 then some p0 else eL (da p0 16 0) (λC6=>some C6))else(if p0.aA=6 then(if p1=1 then some ({p0 with aA:=7})else eL (da ({p0 with aA:=7}) p0.iH 0) (λnn=>some nn))else(if p0.aA=7 then eL (da p0 p0.iH 0) (λdQ=>some dQ)else some p0))))))
theorem yy{p0 r0:bu}{p1:Int}(H:fq p0 p1=some r0)(h:Fit z (an (L)) w) :
 Calls Tryz.prog 216 #[gL p0,vI p1] w λe w=>e=.returned (gL r0)∧Fit z (an (L)) w:=by
 unfold fq at H;refine ke Tryz.func216 49 rfl λj=>ks<|kN h (lM p0) 129 λb1 w h=>kN h (([vI 0,vI 0,vI 0,vI 0,vI 0,vI 0,vI 0,vI 0,vI 0]++jr 64 bp (List.replicate 64 (⟨0,0⟩:aI))++bw (⟨0,0,0,0,0,0,0,0,0,0,0,0,0,false,0,0⟩:aC)).toArray) 129 λb2 w h=>kn<|wq<|ks<|ko [U,U]<|kL (h.pick 1) 4<|kn<|wb<|ks<|ko [vB (p0.aA==1),vB (p0.aA==1)]<|kn<|dR H (λc3 H=>?_) λc3 H=>?_
 ·refine wl<|ko [U,U]<|qh h.m1 λh=>kS h 4 (gz b1 {p0 with aA:=2}) λw h=>kl<|bn<|tn<|ks<|kM h<|qh h.m1 λh=>kA h (gz b2 {p0 with aA:=2}) λw h=>kn<|wr<|kC h<|?_;cases H;exact⟨rfl,h.se 2 []⟩
 refine ks<|ko [vB (p0.aA==2),vB (p0.aA==2)]<|kn<|dR H (λc4 H=>?_) λc4 H=>?_
 ·refine wl<|ko [U,U]<|qh h.m1 λh=>kS h 4 (gz b1 {p0 with aA:=3}) λw h=>kl<|bn<|tn<|ks<|kM h<|qh h.m1 λh=>kA h (gz b2 {p0 with aA:=3}) λw h=>kn<|wr<|kC h<|?_;cases H;exact⟨rfl,h.se 2 []⟩
 refine ks<|ko [vB (p0.aA==3),vB (p0.aA==3)]<|kn<|dR H (λc5 H=>?_) λc5 H=>?_
 ·refine wq<|ks<|ko [U,vB (p1 != 1)]<|kn<|oA H (λc6 H=>?_) λc6 H=>?_
  ·refine wk<|tn<|wl<|fO H λS7 e8 H=>ko [U]<|qh h.m1 λh=>eU (tD (H:=e8) (h:=h) :) λw h=>kl<|bn<|tn<|ks<|kM h<|qh h.m1 λh=>kA h (gz b2 S7) λw h=>kn<|wr<|kC h<|?_;cases H;exact⟨rfl,h.se 2 []⟩
  refine ks<|kM (h.pick 1)<|fO H λr9 B8 H=>eU (tE (H:=B8) (h:=h) :) λw h=>kA h (gz b2 r9) λw h=>kn<|wr<|tr<|br<|tr<|kC h<|?_;cases H;exact⟨rfl,h.se 2 []⟩
 refine ks<|ko [vB (p0.aA==5),vB (p0.aA==5)]<|kn<|dR H (λsH H=>?_) λsH H=>?_
 ·refine ks<|ko [U,vB (p1 != 1)]<|kn<|oA H (λzQ H=>?_) λzQ H=>?_
  ·refine wk<|bn<|tn<|ks<|kM (h.pick 1)<|kA h (gz b2 p0) λw h=>kn<|wr<|kC h<|?_;cases H;exact⟨rfl,h.se 2 []⟩
  refine wl<|fO H λC6 Ci H=>ko [U]<|qh h.m1 λh=>eU (ga (H:=Ci) (h:=h) :) λw h=>kl<|bn<|tn<|ks<|kM h<|qh h.m1 λh=>kA h (gz b2 C6) λw h=>kn<|wr<|kC h<|?_;cases H;exact⟨rfl,h.se 2 []⟩
 refine ks<|ko [vB (p0.aA==6),vB (p0.aA==6)]<|kn<|dR H (λnE H=>?_) λnE H=>?_
 ·refine ks<|ko [U,U]<|qh h.m1 λh=>kS h 4 (gz b1 {p0 with aA:=7}) λw h=>kn<|ks<|ko [U,vB (p1 != 1)]<|kn<|oA H (λtQ H=>?_) λtQ H=>?_
  ·refine wk<|bn<|tn<|ks<|kM h<|qh h.m1 λh=>kA h (gz b2 {p0 with aA:=7}) λw h=>kn<|wr<|kC h<|?_;cases H;exact⟨rfl,h.se 2 []⟩
  refine wl<|ko [U,U,U]<|kL h 6<|fO H λnn ye H=>eU (ga (H:=ye) (h:=h) :) λw h=>kl<|bn<|tn<|ks<|kM h<|qh h.m1 λh=>kA h (gz b2 nn) λw h=>kn<|wr<|kC h<|?_;cases H;exact⟨rfl,h.se 2 []⟩
 refine ks<|ko [vB (p0.aA==7),vB (p0.aA==7)]<|kn<|dR H (λsy H=>?_) λsy H=>?_
 ·refine wl<|ko [U,U,U]<|kL (h.pick 1) 6<|fO H λdQ HW H=>qh h.m1 λh=>eU (ga (H:=HW) (h:=h) :) λw h=>kl<|bn<|tn<|ks<|kM h<|qh h.m1 λh=>kA h (gz b2 dQ) λw h=>kn<|wr<|kC h<|?_;cases H;exact⟨rfl,h.se 2 []⟩
 refine wk<|bn<|tn<|ks<|kM (h.pick 1)<|kA h (gz b2 p0) λw h=>kn<|wr<|kC h<|?_;cases H;exact⟨rfl,h.se 2 []⟩
def gS(p0:bu)(p1:Int):Option (bu):=
 (if p0.aA=8 then(if p1≤0 then eL (da ({p0 with aA:=9}) 19 0) (λS3=>some S3)else(if p0.bR=1 then eL (da ({p0 with aA:=9}) 19 0) (λS6=>some S6)else some ({p0 with aA:=9})))else(if p0.aA=9 then(if p1=1 then some ({p0 with aA:=7})else(if(wi (p0.cK+1))=p0.bR then eL (da ({p0 with cK:=wi (p0.cK+1)}) 19 0) (λvn=>some vn)else some ({p0 with cK:=wi (p0.cK+1)})))else(if p0.aA=7 then eL (je p0) (λgV=>eL (da p0 18 gV) (λbI=>some bI))else some p0)))
theorem xP{p0 q0:bu}{p1:Int}{B0:Nat}(H:gS p0 p1=some q0)(h:Fit z (an (gz B0 p0::L)) w) :
 Calls Tryz.prog 217 #[pA B0 0,vI p1] w λe w=>e=.returned (.tuple #[])∧Fit z (an (gz B0 q0::L)) w:=by
 unfold gS at H;refine ke Tryz.func217 57 rfl λj=>ks<|ko [U,U,U]<|kL h 4<|kn<|wb<|ks<|ko [vB (p0.aA==8),vB (p0.aA==8)]<|kn<|dR H (λc1 H=>?_) λc1 H=>?_
 ·refine ks<|ko [U,U,U]<|kS h 4 (gz B0 {p0 with aA:=9}) λw h=>kn<|ks<|ko [U,vB (decide (p1≤0)),vB (decide (p1≤0))]<|qI H (λc2 H=>?_) λc2 H=>?_
  ·refine bZ (dT c2) [16,17,18,19,20,21]<|mH (dT c2) (vB true)<|kn<|λ_ r=>gb r (b:=true) rfl<|qq r<|wl<|fO H λS3 e4 H=>ko [U]<|eU (ga (H:=e4) (h:=h) :) λw h=>kl<|bn<|?_;cases H;exact Jm h
  refine cS (dF c2) [16,17,18,19] [pA B0 0,pA B0 0,pA B0 0,pA B0 1]<|q9 (dF c2) h 1<|cS (dF c2) [21] [vB (p0.bR==1)]<|mF (dF c2) (vB (p0.bR==1))<|kn<|dR H (λc5 H=>?_) λc5 H=>?_
  ·refine wl<|fO H λS6 e7 H=>ko [U]<|eU (ga (H:=e7) (h:=h) :) λw h=>kl<|bn<|?_;cases H;exact Jm h
  refine wk<|bn<|?_;cases H;exact Jm h
 refine ks<|ko [vB (p0.aA==9),vB (p0.aA==9)]<|kn<|dR H (λc8 H=>?_) λc8 H=>?_
 ·refine wq<|ks<|ko [U,vB (p1==1)]<|kn<|dR H (λc9 H=>?_) λc9 H=>?_
  ·refine ks<|ko [U,U,U]<|kS h 4 (gz B0 {p0 with aA:=7}) λw h=>kn<|wr<|tr<|br<|λ_ r=>FF rfl r<|?_;cases H;exact⟨rfl,h⟩
  refine wk<|tn<|ks<|ko [U,U,U]<|kL h 5<|ko [vI (wi (p0.cK+1)),U,U]<|kS h 5 (gz B0 {p0 with cK:=wi (p0.cK+1)}) λw h=>kn<|wq<|λ_ r=>fy [(B0,5,[vI (wi (p0.cK+1))]),(B0,1,[vI p0.bR])] [1,2,5,6,7] 10 h (λh=>⟨⟨h.cell 5 rfl,gE⟩,⟨h.cell 1 rfl,gE⟩,gE⟩) λw h hd =>qq r<|gg hd 3 [(0,39,pA B0 0),(1,40,pA B0 0),(2,41,pA B0 5),(4,43,pA B0 0),(5,44,pA B0 0),(6,45,pA B0 0),(7,46,pA B0 1)]<|kx hd 0 2 3 rfl rfl<|kx hd 1 1 8 rfl rfl<|gg hd 0 [(9,48,vB ((wi (p0.cK+1))==p0.bR))]<|λ_ r=>ji<|qq r<|tn<|dR H (λnV H=>?_) λnV H=>?_
  ·refine wl<|fO H λvn Aa H=>ko [U]<|eU (ga (H:=Aa) (h:=h) :) λw h=>kl<|bn<|?_;cases H;exact Jm h
  refine wk<|bn<|?_;cases H;exact Jm h
 refine ks<|ko [vB (p0.aA==7),vB (p0.aA==7)]<|kn<|dR H (λvk H=>?_) λvk H=>?_
 ·refine wl<|fO H λgV Gh H=>ko [U,U]<|eU (oX (H:=Gh) (h:=h) :) λw h=>fO H λbI Ie H=>eU (ga (H:=Ie) (h:=h) :) λw h=>kl<|bn<|?_;cases H;exact Jm h
 refine wk<|bn<|?_;cases H;exact Jm h
def gq(p0:bu)(p1:Int):Option (bu):=
 TK ((if p0.aA=10 then some (.inl p0.cK)else eL ((if p0.aA=9 then some (p1==1)else some false)) (λg5=>(if g5=true then some (.inr ({p0 with aA:=7}))else some (.inl (wi (p0.cK+1))))))) (λg1=>(if g1≥p0.bR then eL (da ({p0 with aA:=9,cK:=g1}) 20 0) (λvn=>some vn)else some ({p0 with aA:=9,cK:=g1})))
theorem vv{p0 q0:bu}{p1:Int}{B0:Nat}(H:gq p0 p1=some q0)(h:Fit z (an (gz B0 p0::L)) w) :
 Calls Tryz.prog 218 #[pA B0 0,vI p1] w λe w=>e=.returned (.tuple #[])∧Fit z (an (gz B0 q0::L)) w:=by
 unfold gq at H;refine ke Tryz.func218 48 rfl λj=>?_;obtain⟨o3,H,z9⟩:=jd1 H;refine λ_ r=>dw (β:=Unit) (λ_ a w=>∃g1:Int,.inl g1=o3∧∃j,kP 48 (lk [(0,pA B0 0)] j) a∧Fit z (an (pts B0 (.cells (lM {p0 with aA:=9,cK:=g1}) 129)::L)) w) ?_ ?_
 ·refine qq r<|wb<|ks<|ko [U,U,U]<|kL h 4<|ko [vB (p0.aA==10),vB (p0.aA==10)]<|kn<|dR H (λc4 H=>?_) λc4 H=>?_
  ·refine wl<|ko [U,U,U]<|kS h 4 (gz B0 {p0 with aA:=9}) λw h=>kl<|bn<|tn<|?_;exact λ_ r=>⟨(),p0.cK,gH H,r.fj h⟩
  refine El H λo7 H hK6=>λ_ r=>dw (β:=Unit) (λ_ a w=>∃g5:Bool,g5=o7∧∃j,kP 48 (lk [(0,pA B0 0),(23,vB g5)] j) a∧Fit z (an (gz B0 p0::L)) w) ?_ ?_
  ·refine qq r<|wl<|ko [U,U,U]<|kL h 4<|ko [vB (p0.aA==9),vB (p0.aA==9)]<|qI H (λc8 H=>?_) λc8 H=>?_
   ·refine cS (beq_iff_eq.mpr c8) [30,31] [vI p1,vB (p1==1)]<|mH (beq_iff_eq.mpr c8) (vB (p1==1))<|ko [vB (p1==1)]<|kn<|?_;exact λ_ r=>⟨(),(p1==1),gH H,r.fj h⟩
   refine bZ (bN c8) [30,31]<|mF (bN c8) (vB false)<|ko [U]<|kn<|?_;exact λ_ r=>⟨(),false,gH H,r.fj h⟩
  clear h r;rintro _ a w ⟨g5,rfl,j,r,h⟩;replace H:=Eg hK6;refine qq r<|De H (λc9 H=>?_) λc9 H=>?_
  ·refine ks<|ko [U,U,U]<|kS h 4 (gz B0 {p0 with aA:=7}) λw h=>kn<|wr<|br<|tr<|λ_ r=>FF rfl r<|?_;replace H:=jx1 H z9;cases H;exact⟨rfl,h⟩
  refine ks<|ko [U,U,U]<|kS h 4 (gz B0 {p0 with aA:=9}) λw h=>kn<|wl<|ko [U,U,U]<|kL h 5<|ko [vI (wi (p0.cK+1)),U,U]<|kS h 5 (gz B0 {p0 with aA:=9,cK:=wi (p0.cK+1)}) λw h=>kl<|bn<|tn<|?_;exact λ_ r=>⟨(),(wi (p0.cK+1)),gH H,r.fj h⟩
 clear h r;rintro _ a w ⟨g1,rfl,j,r,h⟩;replace H:=jk1 z9;refine qq r<|wq<|λ_ r=>fy [(B0,5,[vI g1]),(B0,1,[vI p0.bR])] [1,2,5,6,7] 10 h (λh=>⟨⟨h.cell 5 rfl,gE⟩,⟨h.cell 1 rfl,gE⟩,gE⟩) λw h hd =>qq r<|gg hd 3 [(0,36,pA B0 0),(1,37,pA B0 0),(2,38,pA B0 5),(4,40,pA B0 0),(5,41,pA B0 0),(6,42,pA B0 0),(7,43,pA B0 1)]<|kx hd 0 2 3 rfl rfl<|kx hd 1 1 8 rfl rfl<|gg hd 0 [(9,45,vB (decide (g1≥p0.bR)))]<|λ_ r=>ji<|qq r<|tn<|dR H (λnV H=>?_) λnV H=>?_
 ·refine wl<|fO H λvn Aa H=>ko [U]<|eU (ga (H:=Aa) (h:=h) :) λw h=>kl<|?_;cases H;exact Jm h
 refine wk<|?_;cases H;exact Jm h
def dM(p0:ah)(p1:bu):Option (bu×ah):=
 vg ((if p1.cP=0 then some (.inr (p1,p0))else(if p1.aA=0 then some (.inr (p1,p0))else some (.inl ())))) ((if p1.aA=4 then pL (jv p1 p0) (λxm C6=>some (xm,C6))else nC (bV p1 p0) (λnq yf xI=>(if yf=0 then(if p1.cP=1 then eL (fq p1 nq) (λQs=>some (Qs,xI))else(if p1.cP=2 then eL (gS p1 nq) (λHr=>some (Hr,xI))else(if p1.cP=3 then eL (da p1 16 0) (λLN=>(if nq=1 then some ({LN with dy:=17},xI)else some (LN,xI)))else eL (gq p1 nq) (λKW=>some (KW,xI)))))else eL (da p1 1 0) (λEP=>some (EP,xI))))))
theorem yz{p0 q0:ah}{p1 r0:bu}{B0 er eN:Nat}{eu dU:Option Addr}(H:dM p0 p1=some (r0,q0))(h:Fit z (an (dx B0 p0 eu er dU eN::iC eu er p0.cell::bY dU eN p0.log::L)) w) :
 Calls Tryz.prog 187 #[.iface 33 (pA B0 0),gL p1] w λe w=>∃x1 x2 x3 x4,e=.returned (gL r0)∧Fit z (an (dx B0 q0 x1 x2 x3 x4::iC x1 x2 q0.cell::bY x3 x4 q0.log::L)) w:=by
 unfold dM at H;refine ke Tryz.func187 66 rfl λj=>ks<|kN h (lM p1) 129 λb5 w h=>kN h (([vI 0,vI 0,vI 0,vI 0,vI 0,vI 0,vI 0,vI 0,vI 0]++jr 64 bp (List.replicate 64 (⟨0,0⟩:aI))++bw (⟨0,0,0,0,0,0,0,0,0,0,0,0,0,false,0,0⟩:aC)).toArray) 129 λb6 w h=>kn<|?_;obtain⟨o8,H,HS⟩:=AW H;refine λ_ r=>dw (β:=Unit) (λ_ a w=>.inl ()=o8∧∃j,kP 66 (lk [(0,.iface 33 (pA B0 0)),(3,pA b5 0),(4,pA b6 0)] j) a∧Fit z (an (dx B0 p0 eu er dU eN::iC eu er p0.cell::bY dU eN p0.log::gz b5 p1::pts b6 (.cells (([vI 0,vI 0,vI 0,vI 0,vI 0,vI 0,vI 0,vI 0,vI 0]++jr 64 bp (List.replicate 64 (⟨0,0⟩:aI))++bw (⟨0,0,0,0,0,0,0,0,0,0,0,0,0,false,0,0⟩:aC)).toArray) 129)::L)) w) ?_ ?_
 ·refine qq r<|ks<|ko [U,U]<|kL (h.pick 1) 3<|ko [vB (p1.cP==0),vB (p1.cP==0)]<|qI H (λc9 H=>?_) λc9 H=>?_
  ·refine bZ (beq_iff_eq.mpr c9) [12,13,14,15]<|mH (beq_iff_eq.mpr c9) (vB true)<|kn<|λ_ r=>gb r (b:=true) rfl<|qq r<|ks<|kM (h.pick 1)<|kA h (gz b6 p1) λw h=>kn<|wr<|tr<|kC h<|?_;replace H:=sQ H HS;cases H;exact⟨eu,er,dU,eN,rfl,h.se 5 [2,3,4]⟩
  refine cS (bN c9) [12,13] [pA b5 0,pA b5 4]<|q9 (bN c9) (h.pick 1) 4<|cS (bN c9) [15] [vB (p1.aA==0)]<|mF (bN c9) (vB (p1.aA==0))<|kn<|dR H (λnV H=>?_) λnV H=>?_
  ·refine ks<|kM (h.pick 1)<|kA h (gz b6 p1) λw h=>kn<|wr<|tr<|kC h<|?_;replace H:=sQ H HS;cases H;exact⟨eu,er,dU,eN,rfl,h.se 5 [2,3,4]⟩
  refine wk<|tn<|?_;exact λ_ r=>⟨(),gH H,r.fj (h.se 5 [2,3,4,1,0])⟩
 clear h r;rintro _ a w ⟨rfl,j,r,h⟩;replace H:=AX HS;refine qq r<|wq<|ks<|ko [U,U]<|kn<|λ_ r=>ik r (b:=false) rfl<|qq r<|wk<|tn<|wq<|ks<|ko [U,U]<|kL (h.pick 3) 4<|ko [vB (p1.aA==4)]<|kn<|dR H (λsH H=>?_) λsH H=>?_
 ·refine ks<|kM (h.pick 3)<|ta H λxm C6 Ci H=>ko [U]<|jz (ux (H:=Ci) (h:=h) :) λzk xG EC Cj w h=>qh h.m4 λh=>kA h (gz b6 xm) λw h=>kn<|wr<|tr<|kC h<|?_;cases H;exact⟨zk,xG,EC,Cj,rfl,h.se 5 [1,2,3]⟩
 refine wk<|tn<|ks<|ql H λnq yf xI HZ H=>ko [U,U]<|qh h.m2.m2.m2.m3 λh=>jz (tF (H:=HZ) (h:=h) :) λur vM xn zT w h=>ko [.tuple #[vI nq,vI yf],U,U,U,U]<|kn<|wq<|ks<|ko [U,vB (yf != 0)]<|kn<|oA H (λoD H=>?_) λoD H=>?_
 ·refine wk<|tn<|wq<|ks<|ko [U,U]<|kL h 3<|kn<|wb<|ks<|ko [vB (p1.cP==1),vB (p1.cP==1)]<|kn<|dR H (λzh H=>?_) λzh H=>?_
  ·refine ks<|kM h<|fO H λQs LL H=>ko [U]<|eU (yy (H:=LL) (h:=h) :) λw h=>qh h.m4 λh=>kA h (gz b6 Qs) λw h=>kn<|wr<|br<|tr<|kC h<|?_;cases H;exact⟨ur,vM,xn,zT,rfl,h.se 5 [2,3,4]⟩
  refine ks<|ko [vB (p1.cP==2),vB (p1.cP==2)]<|kn<|dR H (λuR H=>?_) λuR H=>?_
  ·refine wl<|fO H λHr MV H=>ko [U,U]<|eU (xP (H:=MV) (h:=h) :) λw h=>kl<|bn<|tn<|ks<|kM h<|qh h.m4 λh=>kA h (gz b6 Hr) λw h=>kn<|wr<|kC h<|?_;cases H;exact⟨ur,vM,xn,zT,rfl,h.se 5 [2,3,4]⟩
  refine ks<|ko [vB (p1.cP==3),vB (p1.cP==3)]<|kn<|dR H (λzb H=>?_) λzb H=>?_
  ·refine ks<|fO H λLN MD H=>ko [U]<|eU (ga (H:=MD) (h:=h) :) λw h=>kn<|ks<|ko [U,vB (nq==1)]<|kn<|dR H (λMJ H=>?_) λMJ H=>?_
   ·refine wl<|ko [U,U]<|kS h 7 (gz b5 {LN with dy:=17}) λw h=>kl<|bn<|tn<|ks<|kM h<|qh h.m4 λh=>kA h (gz b6 {LN with dy:=17}) λw h=>kn<|wr<|kC h<|?_;cases H;exact⟨ur,vM,xn,zT,rfl,h.se 5 [2,3,4]⟩
   refine wk<|bn<|tn<|ks<|kM h<|qh h.m4 λh=>kA h (gz b6 LN) λw h=>kn<|wr<|kC h<|?_;cases H;exact⟨ur,vM,xn,zT,rfl,h.se 5 [2,3,4]⟩
  refine wl<|fO H λKW Pm H=>ko [U,U]<|eU (vv (H:=Pm) (h:=h) :) λw h=>kl<|bn<|tn<|ks<|kM h<|qh h.m4 λh=>kA h (gz b6 KW) λw h=>kn<|wr<|kC h<|?_;cases H;exact⟨ur,vM,xn,zT,rfl,h.se 5 [2,3,4]⟩
 refine ks<|fO H λEP Vp H=>ko [U]<|eU (ga (H:=Vp) (h:=h) :) λw h=>kn<|ks<|kM h<|qh h.m4 λh=>kA h (gz b6 EP) λw h=>kn<|wr<|tr<|kC h<|?_;cases H;exact⟨ur,vM,xn,zT,rfl,h.se 5 [2,3,4]⟩
def mZ(p0:bu):Option (Int×Int):=
 (if p0.cP=0 then some (1,0)else(if p0.aA=0 then some (p0.dy,p0.eC)else some (0,0)))
theorem Cs{p0:bu}{r0 r1:Int}(H:mZ p0=some (r0,r1))(h:Fit z (an (L)) w) :
 Calls Tryz.prog 188 #[gL p0] w λe w=>e=.returned (.tuple #[vI r0,vI r1])∧Fit z (an (L)) w:=by
 unfold mZ at H;refine ke Tryz.func188 20 rfl λj=>ks<|kN h (lM p0) 129 λb1 w h=>ko [U,U]<|kn<|wq<|wb<|ks<|ko [U,U]<|kL h 3<|ko [vB (p0.cP==0),vB (p0.cP==0)]<|kn<|dR H (λc2 H=>?_) λc2 H=>?_
 ·refine ks<|ko [U,U]<|kn<|wr<|br<|tr<|?_;cases H;exact HH (h.se 1 [])
 refine ks<|ko [U,U]<|kL h 4<|ko [vB (p0.aA != 0),vB (p0.aA != 0)]<|kn<|oA H (λc3 H=>?_) λc3 H=>?_
 ·refine wk<|bn<|tn<|wq<|λ_ r=>fy [(b1,7,[vI p0.dy]),(b1,8,[vI p0.eC])] [0,1,3,4] 8 h (λh=>⟨⟨h.cell 7 rfl,gE⟩,⟨h.cell 8 rfl,gE⟩,gE⟩) λw h hd =>qq r<|gg hd 4 [(0,14,pA b1 0),(1,15,pA b1 7),(3,17,pA b1 0),(4,18,pA b1 8)]<|kx hd 0 3 2 rfl rfl<|gg hd 2 [(6,2,vI p0.dy)]<|kx hd 1 1 5 rfl rfl<|gg hd 0 [(7,3,vI p0.eC)]<|λ_ r=>ji<|qq r<|tn<|wr<|?_;cases H;exact HH (h.se 1 [])
 refine ks<|ko [U,U]<|kn<|wr<|br<|tr<|?_;cases H;exact HH (h.se 1 [])
def iA(p0:ai)(bK:ah)(aa:Int):Option (Int×Int×ai×ah):=
 pL (dM bK (ag p0.ae aa.toNat).bS) (λpZ QC=>pL (mZ ({ag p0.ae aa.toNat with bS:=pZ}).bS) (λyf vL=>some (yf,vL,{p0 with ae:=p0.ae.set aa.toNat ({ag p0.ae aa.toNat with bS:=pZ})},QC)))
theorem nG{p0 q0:ai}{bK fP:ah}{aa r0 r1:Int}{B0 bU er eN eW eD bP bD:Nat}{eu dU eO ei cT ax:Option Addr}(H:iA p0 bK aa=some (r0,r1,q0,fP))(h:Fit z (an (fb B0 p0 (.iface 33 (pA bU 0)) eO eW ei eD cT bP ax bD::gD eO eW p0.code::ew ei eD p0.aP::eA cT bP p0.ak::ey B0 ax bD p0.ae::dx bU bK eu er dU eN::iC eu er bK.cell::bY dU eN bK.log::L)) w)(fW:bT aa p0.ae.length) :
 Calls Tryz.prog 136 #[pA (bg ax) (aa.toNat*188)] w λe w=>∃cF cG cH cI,e=.returned (.tuple #[vI r0,vI r1])∧Fit z (an (fb B0 q0 (.iface 33 (pA bU 0)) eO eW ei eD cT bP ax bD::gD eO eW q0.code::ew ei eD q0.aP::eA cT bP q0.ak::ey B0 ax bD q0.ae::dx bU fP cF cG cH cI::iC cF cG fP.cell::bY cH cI fP.log::L)) w:=by
 unfold iA at H;refine ke Tryz.func136 27 rfl λj=>ks<|ko [U,U]<|kn<|wq<|ta H λpZ QC Gh H=>λ_ r=>fy [(bg ax,aa.toNat*188,[pA B0 0]),(B0,0,[.iface 33 (pA bU 0)]),(bg ax,aa.toNat*188+34,j0 (au p0 aa).bS)] [2,3,4,6,7,10,11] 17 h (λh=>⟨((h.pick 4).aQ (sz:=188) (i:=aa.toNat) (af B0) (f:=0) (bf fW) (xs:=[pA B0 0]) (by kernel_rfl)),⟨h.cell 0 rfl,gE⟩,((h.pick 4).aQ (sz:=188) (i:=aa.toNat) (af B0) (f:=34) (bf fW) (xs:=j0 (au p0 aa).bS) (by kernel_rfl)),gE⟩) λw h hd =>qq r<|gg hd 9 [(0,4,pA (bg ax) (aa.toNat*188)),(1,5,pA (bg ax) (aa.toNat*188)),(2,6,pA (bg ax) (aa.toNat*188)),(3,7,pA (bg ax) (aa.toNat*188)),(4,8,pA (bg ax) (aa.toNat*188)),(9,13,pA (bg ax) (aa.toNat*188)),(10,14,pA (bg ax) (aa.toNat*188)),(11,15,pA (bg ax) (aa.toNat*188+34))]<|kx hd 0 8 5 rfl rfl<|gg hd 6 [(6,10,pA B0 0),(7,11,pA B0 0)]<|kx hd 1 5 8 rfl rfl<|tL hd 2 4 12 rfl rfl<|λ_ r=>eZ 13 rfl<|qh h.m7.m7.m7 λh=>qq r<|jz (yz (H:=Gh) (h:=h) :) λxG EC Cj rJ w h=>kn<|λ_ r=>xE<|gU 2 14 rfl (wn rfl) r (pA (bg ax) (aa.toNat*188))<|?_;refine λ_ r=>gU 1 15 rfl (wn rfl) r (pA (bg ax) (aa.toNat*188+34))<|?_;refine λ_ r=>eZ 16 rfl<|qh h.m7 λh=>fL (vs:=j0 pZ) (f:=34) (i:=aa.toNat) (wn rfl) rfl r rfl (by kernel_rfl) (by kernel_rfl) rfl (by kernel_rfl) (af B0) h (p:=(au p0 aa)) (q:=({au p0 aa with bS:=pZ})) (bf fW) (Nat.le_of_ble_eq_true (by kernel_rfl)) (by kernel_rfl) λw h=>qq r<|kn<|λ_ r=>xE<|ji<|qq r<|tn<|ks<|ko [U,U,U]<|λ_ r=>tK (wn rfl) r (gL ({au p0 aa with bS:=pZ}).bS) (cs:=j0 ({au p0 aa with bS:=pZ}).bS) (h.aQ (sz:=188) (i:=aa.toNat) (af B0) (f:=34) (cU (ef fW)) (xs:=j0 ({au p0 aa with bS:=pZ}).bS) (by kernel_rfl))<|?_;refine ta H λyf vL HZ H=>eU (Cs (H:=HZ) (h:=h) :) λw h=>ko [U,U,U,U]<|kn<|wr<|λ_ r=>lC (v:=vI yf) (v':=vI vL) rfl r (by kernel_rfl) (by kernel_rfl)<|qh h.m4.m1 λh=>?_;have M0:p0.ae.length=(ic p0 aa ({au p0 aa with bS:=pZ})).length:=h.eY;replace h:=Fit.jZ M0 (λq_=>rowOf 131 188 (aV B0) (.slice ax q_ bD) (ic p0 aa ({au p0 aa with bS:=pZ}))) (λq_=>pts B0 (.cells #[.iface 33 (pA bU 0),.slice eO p0.code.length eW,vI p0.result,vI p0.aR,vI p0.aJ,vI p0.bC,vI p0.aK,.slice ei p0.aP.length eD,.slice cT p0.ak.length bP,.slice ax q_ bD,vI p0.value,vB p0.left] 110)) h;cases H;exact⟨xG,EC,Cj,rJ,rfl,h.se 8 [1,5,6,7,0,2,3,4]⟩
def dJ(p0:ai)(bK:ah)(aa:Int)(p1:aF):Option (aD×ai×ah):=
 C2 (iA p0 bK aa) (λgV lI bI nn=>(if gV=0 then some ((⟨0,0,0,0,0,0⟩:aD),bI,nn)else(if gV=18 then if bT aa bI.ae.length then some ((⟨0,0,3,({ag bI.ae aa.toNat with aH:=1}).aj,lI,0⟩:aD),{bI with ae:=bI.ae.set aa.toNat ({ag bI.ae aa.toNat with aH:=1})},nn)else none else(if gV=19 then if bT aa bI.ae.length then some ((⟨0,0,0,0,0,0⟩:aD),{bI with ae:=bI.ae.set aa.toNat ({ag bI.ae aa.toNat with aH:=1})},nn)else none else if bT aa bI.ae.length then pL (de bI nn aa) (λtS Hr=>some (tS,Hr,nn))else none))))
theorem mA{p0 q0:ai}{bK fP:ah}{aa:Int}{p1:aF}{B0 bU er eN eW eD bP bD B1:Nat}{eu dU eO ei cT ax:Option Addr}{r0:aD}(H:dJ p0 bK aa p1=some (r0,q0,fP))(h:Fit z (an (fb B0 p0 (.iface 33 (pA bU 0)) eO eW ei eD cT bP ax bD::gD eO eW p0.code::ew ei eD p0.aP::eA cT bP p0.ak::ey B0 ax bD p0.ae::dx bU bK eu er dU eN::iC eu er bK.cell::bY dU eN bK.log::qU B1 p1::L)) w)(fW:bT aa p0.ae.length) :
 Calls Tryz.prog 89 #[pA (bg ax) (aa.toNat*188),.iface 42 (pA B1 0)] w λe w=>∃cF cG cH cI,e=.returned (dY r0)∧Fit z (an (fb B0 q0 (.iface 33 (pA bU 0)) eO eW ei eD cT bP ax bD::gD eO eW q0.code::ew ei eD q0.aP::eA cT bP q0.ak::ey B0 ax bD q0.ae::dx bU fP cF cG cH cI::iC cF cG fP.cell::bY cH cI fP.log::qU B1 p1::L)) w:=by
 unfold dJ at H;refine ke Tryz.func89 35 rfl λj=>ks<|kN h (#[vI 0,vI 0,vI 0,vI 0,vI 0,vI 0]) 47 λgQ w h=>kn<|wq<|ks<|HG H λgV lI bI nn ye H=>ko [U]<|qh h.m8.m8.m8.m8.m8.m8.m8.m8 λh=>jz (nG (fW:=fW) (H:=ye) (h:=h) :) λrJ rm oQ ow w h=>ko [.tuple #[vI gV,vI lI],U,U,U,U]<|kn<|ks<|ko [U]<|kn<|wb<|ks<|ko [vB (gV==0),vB (gV==0)]<|kn<|dR H (λvY H=>?_) λvY H=>?_
 ·refine ks<|ko [U]<|qh h.m8 λh=>kA h (pts gQ (.cells #[vI 0,vI 0,vI 0,vI 0,vI 0,vI 0] 47)) λw h=>kn<|wr<|br<|tr<|kC h<|?_;cases H;exact⟨rJ,rm,oQ,ow,rfl,h.se 10 [1,2,3,4,5,6,7,8,9]⟩
 refine ks<|ko [vB (gV==18),vB (gV==18)]<|kn<|dR H (λwS H=>?_) λwS H=>?_
 ·refine ks<|qg H λuO H=>ko [U,U,U]<|qh h.m4 λh=>λ_ r=>bx (wn rfl) rfl r rfl (by kernel_rfl) (by kernel_rfl) (v:=vI 1) rfl rfl (by kernel_rfl) (af B0) h (i:=aa.toNat) (f:=2) (p:=(au bI aa)) (q:=({au bI aa with aH:=1})) (bf uO) (by decide) (by kernel_rfl) λw h=>qq r<|kn<|ks<|ko [U,U,U]<|λ_ r=>ld (wn rfl) r (vI ({au bI aa with aH:=1}).aj) (h.cL (sz:=188) (i:=aa.toNat) (af B0) (f:=3) (cU (ef uO)) (by kernel_rfl))<|?_;refine ko [U,U]<|qh h.m8 λh=>kA h (pts gQ (.cells #[vI 0,vI 0,vI 3,vI ({au bI aa with aH:=1}).aj,vI lI,vI 0] 47)) λw h=>kn<|wr<|br<|tr<|kC h<|qh h.m2.m2 λh=>?_;have Ik:bI.ae.length=(ic bI aa ({au bI aa with aH:=1})).length:=h.eY;replace h:=Fit.jZ Ik (λq_=>rowOf 131 188 (aV B0) (.slice ax q_ bD) (ic bI aa ({au bI aa with aH:=1}))) (λq_=>pts B0 (.cells #[.iface 33 (pA bU 0),.slice eO bI.code.length eW,vI bI.result,vI bI.aR,vI bI.aJ,vI bI.bC,vI bI.aK,.slice ei bI.aP.length eD,.slice cT bI.ak.length bP,.slice ax q_ bD,vI bI.value,vB bI.left] 110)) h;cases H;exact⟨rJ,rm,oQ,ow,rfl,h.se 10 [1,3,4,5,0,6,7,8,9]⟩
 refine ks<|ko [vB (gV==19),vB (gV==19)]<|kn<|dR H (λoD H=>?_) λoD H=>?_
 ·refine ks<|qg H λzh H=>ko [U,U,U]<|qh h.m4 λh=>λ_ r=>bx (wn rfl) rfl r rfl (by kernel_rfl) (by kernel_rfl) (v:=vI 1) rfl rfl (by kernel_rfl) (af B0) h (i:=aa.toNat) (f:=2) (p:=(au bI aa)) (q:=({au bI aa with aH:=1})) (bf zh) (by decide) (by kernel_rfl) λw h=>qq r<|kn<|ks<|ko [U]<|qh h.m8 λh=>kA h (pts gQ (.cells #[vI 0,vI 0,vI 0,vI 0,vI 0,vI 0] 47)) λw h=>kn<|wr<|br<|tr<|kC h<|qh h.m2.m2 λh=>?_;have Co:bI.ae.length=(ic bI aa ({au bI aa with aH:=1})).length:=h.eY;replace h:=Fit.jZ Co (λq_=>rowOf 131 188 (aV B0) (.slice ax q_ bD) (ic bI aa ({au bI aa with aH:=1}))) (λq_=>pts B0 (.cells #[.iface 33 (pA bU 0),.slice eO bI.code.length eW,vI bI.result,vI bI.aR,vI bI.aJ,vI bI.bC,vI bI.aK,.slice ei bI.aP.length eD,.slice cT bI.ak.length bP,.slice ax q_ bD,vI bI.value,vB bI.left] 110)) h;cases H;exact⟨rJ,rm,oQ,ow,rfl,h.se 10 [1,3,4,5,0,6,7,8,9]⟩
 refine wk<|bn<|tn<|ks<|qg H λrS H=>ta H λtS Hr MV H=>ko [U]<|eU (dh (fW:=rS) (H:=MV) (h:=h) :) λw h=>qh h.m8 λh=>kA h (fe gQ tS) λw h=>kn<|wr<|kC h<|?_;cases H;exact⟨rJ,rm,oQ,ow,rfl,h.se 10 [1,2,3,4,5,6,7,8,9]⟩
def dO(p0:ai)(bK:ah)(aa:Int)(p1:aF):Option (aD×ai×ah):=
 C2 (dS p0 bK aa) (λgV lI bI nn=>(if gV=0 then some ((⟨0,0,0,0,0,0⟩:aD),bI,nn)else(if gV=10 then if bT aa bI.ae.length then eL (iG bI nn aa) (λGp=>some ((⟨0,0,0,0,0,0⟩:aD),Gp,nn))else none else(if gV=11 then if bT aa bI.ae.length then Hz (dz bI nn (ag bI.ae aa.toNat).bj (ag bI.ae aa.toNat).done) (if bT (ag bI.ae aa.toNat).done bI.ak.length then some ((⟨0,0,7,({{ag bI.ae aa.toNat with aj:=(ag bI.ak (ag bI.ae aa.toNat).done.toNat).parent}with aH:=1}).aj,({{ag bI.ae aa.toNat with aj:=(ag bI.ak (ag bI.ae aa.toNat).done.toNat).parent}with aH:=1}).done,0⟩:aD),{bI with ae:=(bI.ae.set aa.toNat ({ag bI.ae aa.toNat with aj:=(ag bI.ak (ag bI.ae aa.toNat).done.toNat).parent})).set aa.toNat ({{ag bI.ae aa.toNat with aj:=(ag bI.ak (ag bI.ae aa.toNat).done.toNat).parent}with aH:=1})},nn)else none)else none else if bT aa bI.ae.length then pL (de bI nn aa) (λnW LN=>some (nW,LN,nn))else none))))
theorem lB{p0 q0:ai}{bK fP:ah}{aa:Int}{p1:aF}{B0 bU er eN eW eD bP bD B1:Nat}{eu dU eO ei cT ax:Option Addr}{r0:aD}(H:dO p0 bK aa p1=some (r0,q0,fP))(h:Fit z (an (fb B0 p0 (.iface 33 (pA bU 0)) eO eW ei eD cT bP ax bD::gD eO eW p0.code::ew ei eD p0.aP::eA cT bP p0.ak::ey B0 ax bD p0.ae::dx bU bK eu er dU eN::iC eu er bK.cell::bY dU eN bK.log::qU B1 p1::L)) w)(fW:bT aa p0.ae.length) :
 Calls Tryz.prog 91 #[pA (bg ax) (aa.toNat*188),.iface 42 (pA B1 0)] w λe w=>∃cF cG cH cI,e=.returned (dY r0)∧Fit z (an (fb B0 q0 (.iface 33 (pA bU 0)) eO eW ei eD cT bP ax bD::gD eO eW q0.code::ew ei eD q0.aP::eA cT bP q0.ak::ey B0 ax bD q0.ae::dx bU fP cF cG cH cI::iC cF cG fP.cell::bY cH cI fP.log::qU B1 p1::L)) w:=by
 unfold dO at H;refine ke Tryz.func91 52 rfl λj=>ks<|kN h (#[vI 0,vI 0,vI 0,vI 0,vI 0,vI 0]) 47 λgQ w h=>kn<|wq<|ks<|HG H λgV lI bI nn ye H=>ko [U]<|qh h.m8.m8.m8.m8.m8.m8.m8.m8 λh=>jz (iJ (fW:=fW) (H:=ye) (h:=h) :) λrJ rm oQ ow w h=>ko [.tuple #[vI gV,vI lI],U,U,U,U]<|kn<|ks<|ko [U]<|kn<|wb<|ks<|ko [vB (gV==0),vB (gV==0)]<|kn<|dR H (λvY H=>?_) λvY H=>?_
 ·refine ks<|ko [U]<|qh h.m8 λh=>kA h (pts gQ (.cells #[vI 0,vI 0,vI 0,vI 0,vI 0,vI 0] 47)) λw h=>kn<|wr<|br<|tr<|kC h<|?_;cases H;exact⟨rJ,rm,oQ,ow,rfl,h.se 10 [1,2,3,4,5,6,7,8,9]⟩
 refine ks<|ko [vB (gV==10),vB (gV==10)]<|kn<|dR H (λwS H=>?_) λwS H=>?_
 ·refine ks<|qg H λuO H=>fO H λGp Kx H=>ko [U]<|eU (qD (fW:=uO) (H:=Kx) (h:=h) :) λw h=>kn<|ks<|ko [U]<|qh h.m8 λh=>kA h (pts gQ (.cells #[vI 0,vI 0,vI 0,vI 0,vI 0,vI 0] 47)) λw h=>kn<|wr<|br<|tr<|kC h<|?_;cases H;exact⟨rJ,rm,oQ,ow,rfl,h.se 10 [1,2,3,4,5,6,7,8,9]⟩
 refine ks<|ko [vB (gV==11),vB (gV==11)]<|kn<|dR H (λzh H=>?_) λzh H=>?_
 ·refine wq<|qg H λyK H=>Rh H λLL H=>qg H λuR H=>λ_ r=>fy [(bg ax,aa.toNat*188,[pA B0 0,vI (au bI aa).bj]),(bg ax,aa.toNat*188+6,[vI (au bI aa).done]),(bg cT,(au bI aa).done.toNat*22+2,[vI (ag bI.ak (au bI aa).done.toNat).parent])] [3,4,7,8,10,11,12] 20 h (λh=>⟨((h.pick 4).aQ (sz:=188) (i:=aa.toNat) (af B0) (f:=0) (bf yK) (xs:=[pA B0 0,vI (au bI aa).bj]) (by kernel_rfl)),((h.pick 4).aQ (sz:=188) (i:=aa.toNat) (af B0) (f:=6) (bf yK) (xs:=[vI (au bI aa).done]) (by kernel_rfl)),((h.pick 3).aQ (sz:=22) (i:=(au bI aa).done.toNat) aS (f:=2) (bf uR) (xs:=[vI (ag bI.ak (au bI aa).done.toNat).parent]) (by kernel_rfl)),gE⟩) λw h hd =>qq r<|gg hd 12 [(0,23,pA (bg ax) (aa.toNat*188)),(1,24,pA (bg ax) (aa.toNat*188)),(2,25,pA (bg ax) (aa.toNat*188)),(3,26,pA (bg ax) (aa.toNat*188)),(4,27,pA (bg ax) (aa.toNat*188)),(6,29,pA (bg ax) (aa.toNat*188)),(7,30,pA (bg ax) (aa.toNat*188)),(8,31,pA (bg ax) (aa.toNat*188+6))]<|tL hd 0 11 5 rfl rfl<|kx hd 1 10 9 rfl rfl<|λ_ r=>eZ 10 rfl<|qq r<|eU (iz (H:=LL) (h:=h) :) λw h=>kn<|λ_ r=>eE ⟨((h.pick 4).aQ (sz:=188) (i:=aa.toNat) (af B0) (f:=0) (bf yK) (xs:=[pA B0 0,vI (au bI aa).bj]) (by kernel_rfl)),((h.pick 4).aQ (sz:=188) (i:=aa.toNat) (af B0) (f:=6) (bf yK) (xs:=[vI (au bI aa).done]) (by kernel_rfl)),((h.pick 3).aQ (sz:=22) (i:=(au bI aa).done.toNat) aS (f:=2) (bf uR) (xs:=[vI (ag bI.ak (au bI aa).done.toNat).parent]) (by kernel_rfl)),gE⟩ λhd =>qq r<|gg hd 7 [(11,34,pA (bg cT) ((au bI aa).done.toNat*22)),(12,35,pA (bg cT) ((au bI aa).done.toNat*22+2))]<|kx hd 2 6 13 rfl rfl<|gg hd 4 [(14,37,pA (bg ax) (aa.toNat*188)),(15,38,pA (bg ax) (aa.toNat*188+3))]<|λ_ r=>eZ 16 rfl<|qh h.m4 λh=>bx (wn rfl) rfl r rfl (by kernel_rfl) (by kernel_rfl) (v:=vI (ag bI.ak (au bI aa).done.toNat).parent) rfl rfl (by kernel_rfl) (af B0) h (i:=aa.toNat) (f:=3) (p:=(au bI aa)) (q:=({au bI aa with aj:=(ag bI.ak (au bI aa).done.toNat).parent})) (bf yK) (by decide) (by kernel_rfl) λw h=>qq r<|kn<|λ_ r=>xE<|gU 2 17 rfl (wn rfl) r (pA (bg ax) (aa.toNat*188))<|?_;refine λ_ r=>gU 1 18 rfl (wn rfl) r (pA (bg ax) (aa.toNat*188+2))<|?_
  refine λ_ r=>eZ 19 rfl<|bx (wn rfl) rfl r rfl (by kernel_rfl) (by kernel_rfl) (v:=vI 1) rfl rfl (by kernel_rfl) (af B0) h (i:=aa.toNat) (f:=2) (p:={au bI aa with aj:=(ag bI.ak (au bI aa).done.toNat).parent}) (q:=({{au bI aa with aj:=(ag bI.ak (au bI aa).done.toNat).parent}with aH:=1})) (cU (ef yK)) (by decide) (by kernel_rfl) λw h=>qq r<|kn<|λ_ r=>xE<|ji<|qq r<|tn<|wq<|λ_ r=>fy [(bg ax,aa.toNat*188+3,[vI ({{au bI aa with aj:=(ag bI.ak (au bI aa).done.toNat).parent}with aH:=1}).aj]),(bg ax,aa.toNat*188+6,[vI ({{au bI aa with aj:=(ag bI.ak (au bI aa).done.toNat).parent}with aH:=1}).done])] [1,2,5,6] 10 h (λh=>⟨(h.aQ (sz:=188) (i:=aa.toNat) (af B0) (f:=3) (cU ((ef (by simpa [bT]using yK)))) (xs:=[vI ({{au bI aa with aj:=(ag bI.ak (au bI aa).done.toNat).parent}with aH:=1}).aj]) (by kernel_rfl)),(h.aQ (sz:=188) (i:=aa.toNat) (af B0) (f:=6) (cU ((ef (by simpa [bT]using yK)))) (xs:=[vI ({{au bI aa with aj:=(ag bI.ak (au bI aa).done.toNat).parent}with aH:=1}).done]) (by kernel_rfl)),gE⟩) λw h hd =>qq r<|gg hd 4 [(0,41,pA (bg ax) (aa.toNat*188)),(1,42,pA (bg ax) (aa.toNat*188)),(2,43,pA (bg ax) (aa.toNat*188+3)),(4,45,pA (bg ax) (aa.toNat*188)),(5,46,pA (bg ax) (aa.toNat*188)),(6,47,pA (bg ax) (aa.toNat*188+6))]<|kx hd 0 3 3 rfl rfl<|kx hd 1 2 7 rfl rfl<|gg hd 1 [(8,49,.agg #[vI 0,vI 0,vI 7,vI ({{au bI aa with aj:=(ag bI.ak (au bI aa).done.toNat).parent}with aH:=1}).aj,vI ({{au bI aa with aj:=(ag bI.ak (au bI aa).done.toNat).parent}with aH:=1}).done,vI 0])]<|λ_ r=>eZ 9 rfl<|qh h.m8 λh=>qq r<|kA h (pts gQ (.cells #[vI 0,vI 0,vI 7,vI ({{au bI aa with aj:=(ag bI.ak (au bI aa).done.toNat).parent}with aH:=1}).aj,vI ({{au bI aa with aj:=(ag bI.ak (au bI aa).done.toNat).parent}with aH:=1}).done,vI 0] 47)) λw h=>kn<|λ_ r=>xE<|ji<|qq r<|tn<|wr<|br<|tr<|kC h<|qh h.m2.m2 λh=>?_;have M3:bI.ae.length=((ic bI aa ({au bI aa with aj:=(ag bI.ak (au bI aa).done.toNat).parent})).set aa.toNat ({{au bI aa with aj:=(ag bI.ak (au bI aa).done.toNat).parent}with aH:=1})).length:=h.eY;replace h:=Fit.jZ M3 (λq_=>rowOf 131 188 (aV B0) (.slice ax q_ bD) ((ic bI aa ({au bI aa with aj:=(ag bI.ak (au bI aa).done.toNat).parent})).set aa.toNat ({{au bI aa with aj:=(ag bI.ak (au bI aa).done.toNat).parent}with aH:=1}))) (λq_=>pts B0 (.cells #[.iface 33 (pA bU 0),.slice eO bI.code.length eW,vI bI.result,vI bI.aR,vI bI.aJ,vI bI.bC,vI bI.aK,.slice ei bI.aP.length eD,.slice cT bI.ak.length bP,.slice ax q_ bD,vI bI.value,vB bI.left] 110)) h;cases H;exact⟨rJ,rm,oQ,ow,rfl,h.se 10 [1,3,4,5,0,6,7,8,9]⟩
 refine wk<|bn<|tn<|ks<|qg H λxz H=>ta H λnW LN MD H=>ko [U]<|eU (dh (fW:=xz) (H:=MD) (h:=h) :) λw h=>qh h.m8 λh=>kA h (fe gQ nW) λw h=>kn<|wr<|kC h<|?_;cases H;exact⟨rJ,rm,oQ,ow,rfl,h.se 10 [1,2,3,4,5,6,7,8,9]⟩
def jq(p0:ai)(bK:ah)(aa:Int):Option (aD×ai):=
 some ((⟨0,0,10,0,0,0⟩:aD),{p0 with ae:=p0.ae.set aa.toNat ({ag p0.ae aa.toNat with aH:=13})})
theorem oI{p0 q0:ai}{bK:ah}{aa:Int}{B0 bU er eN eW eD bP bD:Nat}{eu dU eO ei cT ax:Option Addr}{r0:aD}(H:jq p0 bK aa=some (r0,q0))(h:Fit z (an (fb B0 p0 (.iface 33 (pA bU 0)) eO eW ei eD cT bP ax bD::gD eO eW p0.code::ew ei eD p0.aP::eA cT bP p0.ak::ey B0 ax bD p0.ae::dx bU bK eu er dU eN::iC eu er bK.cell::bY dU eN bK.log::L)) w)(fW:bT aa p0.ae.length) :
 Calls Tryz.prog 138 #[pA (bg ax) (aa.toNat*188)] w λe w=>e=.returned (dY r0)∧Fit z (an (fb B0 q0 (.iface 33 (pA bU 0)) eO eW ei eD cT bP ax bD::gD eO eW q0.code::ew ei eD q0.aP::eA cT bP q0.ak::ey B0 ax bD q0.ae::dx bU bK eu er dU eN::iC eu er bK.cell::bY dU eN bK.log::L)) w:=by
 unfold jq at H;refine ke Tryz.func138 7 rfl λj=>ks<|kN h (#[vI 0,vI 0,vI 0,vI 0,vI 0,vI 0]) 47 λgQ w h=>kn<|ks<|ko [U,U,U]<|qh h.m5 λh=>λ_ r=>bx (wn rfl) rfl r rfl (by kernel_rfl) (by kernel_rfl) (v:=vI 13) rfl rfl (by kernel_rfl) (af B0) h (i:=aa.toNat) (f:=2) (p:=(au p0 aa)) (q:=({au p0 aa with aH:=13})) (bf fW) (by decide) (by kernel_rfl) λw h=>qq r<|kn<|ks<|ko [U]<|qh h.m1 λh=>kA h (pts gQ (.cells #[vI 0,vI 0,vI 10,vI 0,vI 0,vI 0] 47)) λw h=>kn<|wr<|kC h<|qh h.m2.m2 λh=>?_;have RN:p0.ae.length=(ic p0 aa ({au p0 aa with aH:=13})).length:=h.eY;replace h:=Fit.jZ RN (λq_=>rowOf 131 188 (aV B0) (.slice ax q_ bD) (ic p0 aa ({au p0 aa with aH:=13}))) (λq_=>pts B0 (.cells #[.iface 33 (pA bU 0),.slice eO p0.code.length eW,vI p0.result,vI p0.aR,vI p0.aJ,vI p0.bC,vI p0.aK,.slice ei p0.aP.length eD,.slice cT p0.ak.length bP,.slice ax q_ bD,vI p0.value,vB p0.left] 110)) h;cases H;exact⟨rfl,h.se 9 [1,3,4,5,0,6,7,8]⟩
def eH(p0:ai)(bK:ah)(aa:Int)(p1:aF):Option (aD×ai×ah):=
 C2 (iA p0 bK aa) (λgV lI bI nn=>(if gV=0 then some ((⟨0,0,0,0,0,0⟩:aD),bI,nn)else(if gV=20 then if bT aa bI.ae.length then pL (jq bI nn aa) (λxB Hl=>some (xB,Hl,nn))else none else if bT aa bI.ae.length then pL (de bI nn aa) (λvj N6=>some (vj,N6,nn))else none)))
theorem mB{p0 q0:ai}{bK fP:ah}{aa:Int}{p1:aF}{B0 bU er eN eW eD bP bD B1:Nat}{eu dU eO ei cT ax:Option Addr}{r0:aD}(H:eH p0 bK aa p1=some (r0,q0,fP))(h:Fit z (an (fb B0 p0 (.iface 33 (pA bU 0)) eO eW ei eD cT bP ax bD::gD eO eW p0.code::ew ei eD p0.aP::eA cT bP p0.ak::ey B0 ax bD p0.ae::dx bU bK eu er dU eN::iC eu er bK.cell::bY dU eN bK.log::qU B1 p1::L)) w)(fW:bT aa p0.ae.length) :
 Calls Tryz.prog 92 #[pA (bg ax) (aa.toNat*188),.iface 42 (pA B1 0)] w λe w=>∃cF cG cH cI,e=.returned (dY r0)∧Fit z (an (fb B0 q0 (.iface 33 (pA bU 0)) eO eW ei eD cT bP ax bD::gD eO eW q0.code::ew ei eD q0.aP::eA cT bP q0.ak::ey B0 ax bD q0.ae::dx bU fP cF cG cH cI::iC cF cG fP.cell::bY cH cI fP.log::qU B1 p1::L)) w:=by
 unfold eH at H;refine ke Tryz.func92 22 rfl λj=>ks<|kN h (#[vI 0,vI 0,vI 0,vI 0,vI 0,vI 0]) 47 λgQ w h=>kn<|wq<|ks<|HG H λgV lI bI nn ye H=>ko [U]<|qh h.m8.m8.m8.m8.m8.m8.m8.m8 λh=>jz (nG (fW:=fW) (H:=ye) (h:=h) :) λrJ rm oQ ow w h=>ko [.tuple #[vI gV,vI lI],U,U,U,U]<|kn<|ks<|ko [U]<|kn<|wb<|ks<|ko [vB (gV==0),vB (gV==0)]<|kn<|dR H (λvY H=>?_) λvY H=>?_
 ·refine ks<|ko [U]<|qh h.m8 λh=>kA h (pts gQ (.cells #[vI 0,vI 0,vI 0,vI 0,vI 0,vI 0] 47)) λw h=>kn<|wr<|br<|tr<|kC h<|?_;cases H;exact⟨rJ,rm,oQ,ow,rfl,h.se 10 [1,2,3,4,5,6,7,8,9]⟩
 refine ks<|ko [vB (gV==20),vB (gV==20)]<|kn<|dR H (λwS H=>?_) λwS H=>?_
 ·refine ks<|qg H λuO H=>ta H λxB Hl Kr H=>ko [U]<|eU (oI (fW:=uO) (H:=Kr) (h:=h) :) λw h=>qh h.m8 λh=>kA h (fe gQ xB) λw h=>kn<|wr<|br<|tr<|kC h<|?_;cases H;exact⟨rJ,rm,oQ,ow,rfl,h.se 10 [1,2,3,4,5,6,7,8,9]⟩
 refine wk<|bn<|tn<|ks<|qg H λyK H=>ta H λvj N6 HV H=>ko [U]<|eU (dh (fW:=yK) (H:=HV) (h:=h) :) λw h=>qh h.m8 λh=>kA h (fe gQ vj) λw h=>kn<|wr<|kC h<|?_;cases H;exact⟨rJ,rm,oQ,ow,rfl,h.se 10 [1,2,3,4,5,6,7,8,9]⟩
def cw(p0:ai)(bK:ah)(aa:Int)(p1:aF):Option (aD×ai×ah):=
 C2 (jG p0 bK aa) (λgV lI bI nn=>(if gV=0 then some ((⟨0,0,0,0,0,0⟩:aD),bI,nn)else(if gV=4 then if bT aa bI.ae.length then some ((⟨0,0,0,0,0,0⟩:aD),{bI with ae:=((bI.ae.set aa.toNat ({ag bI.ae aa.toNat with aj:=lI})).set aa.toNat ({{ag bI.ae aa.toNat with aj:=lI}with from_:=-1})).set aa.toNat ({{{ag bI.ae aa.toNat with aj:=lI}with from_:=-1}with aH:=0})},nn)else none else(if gV=5 then if bT aa bI.ae.length then some ((⟨0,0,0,0,0,0⟩:aD),{bI with ae:=(bI.ae.set aa.toNat ({ag bI.ae aa.toNat with tries:=0})).set aa.toNat ({{ag bI.ae aa.toNat with tries:=0}with aH:=9})},nn)else none else if bT aa bI.ae.length then pL (de bI nn aa) (λtS Hr=>some (tS,Hr,nn))else none))))
theorem mM{p0 q0:ai}{bK fP:ah}{aa:Int}{p1:aF}{B0 bU er eN eW eD bP bD B1:Nat}{eu dU eO ei cT ax:Option Addr}{r0:aD}(H:cw p0 bK aa p1=some (r0,q0,fP))(h:Fit z (an (fb B0 p0 (.iface 33 (pA bU 0)) eO eW ei eD cT bP ax bD::gD eO eW p0.code::ew ei eD p0.aP::eA cT bP p0.ak::ey B0 ax bD p0.ae::dx bU bK eu er dU eN::iC eu er bK.cell::bY dU eN bK.log::qU B1 p1::L)) w)(fW:bT aa p0.ae.length) :
 Calls Tryz.prog 93 #[pA (bg ax) (aa.toNat*188),.iface 42 (pA B1 0)] w λe w=>∃cF cG cH cI,e=.returned (dY r0)∧Fit z (an (fb B0 q0 (.iface 33 (pA bU 0)) eO eW ei eD cT bP ax bD::gD eO eW q0.code::ew ei eD q0.aP::eA cT bP q0.ak::ey B0 ax bD q0.ae::dx bU fP cF cG cH cI::iC cF cG fP.cell::bY cH cI fP.log::qU B1 p1::L)) w:=by
 unfold cw at H;refine ke Tryz.func93 33 rfl λj=>ks<|kN h (#[vI 0,vI 0,vI 0,vI 0,vI 0,vI 0]) 47 λgQ w h=>kn<|wq<|ks<|HG H λgV lI bI nn ye H=>ko [U]<|qh h.m8.m8.m8.m8.m8.m8.m8.m8 λh=>jz (oy (fW:=fW) (H:=ye) (h:=h) :) λrJ rm oQ ow w h=>ko [.tuple #[vI gV,vI lI],U,U,U,U]<|kn<|ks<|ko [U]<|kn<|wb<|ks<|ko [vB (gV==0),vB (gV==0)]<|kn<|dR H (λvY H=>?_) λvY H=>?_
 ·refine ks<|ko [U]<|qh h.m8 λh=>kA h (pts gQ (.cells #[vI 0,vI 0,vI 0,vI 0,vI 0,vI 0] 47)) λw h=>kn<|wr<|br<|tr<|kC h<|?_;cases H;exact⟨rJ,rm,oQ,ow,rfl,h.se 10 [1,2,3,4,5,6,7,8,9]⟩
 refine ks<|ko [vB (gV==4),vB (gV==4)]<|kn<|dR H (λwS H=>?_) λwS H=>?_
 ·refine ks<|qg H λuO H=>ko [U,U]<|?_;intro _ r;refine yn (wn rfl) rfl rfl r (f:=52) (args:=#[pA (bg ax) (aa.toNat*188),vI lI,vI (-1)]) (by kernel_rfl) ?_;clear r;refine enter Tryz.func52 rfl 17 rfl rfl [(0,pA (bg ax) (aa.toNat*188)),(1,vI lI),(2,vI (-1))] ⟨by kernel_rfl,by kernel_rfl,by kernel_rfl,gE⟩ ?_;intro j a r;refine qq r<|wl<|ko [U,U,U,U,vI (-1),U,U]<|qh h.m4 λh=>λ_ r=>bx (wn rfl) rfl r rfl (by kernel_rfl) (by kernel_rfl) (v:=vI lI) rfl rfl (by kernel_rfl) (af B0) h (i:=aa.toNat) (f:=3) (p:=(au bI aa)) (q:=({au bI aa with aj:=lI})) (bf uO) (by decide) (by kernel_rfl) λw h=>qq r<|ko [U,U]<|λ_ r=>bx (wn rfl) rfl r rfl (by kernel_rfl) (by kernel_rfl) (v:=vI (-1)) rfl rfl (by kernel_rfl) (af B0) h (i:=aa.toNat) (f:=4) (p:={au bI aa with aj:=lI}) (q:=({{au bI aa with aj:=lI}with from_:=-1})) (cU (ef uO)) (by decide) (by kernel_rfl) λw h=>qq r<|ko [U,U]<|λ_ r=>bx (wn rfl) rfl r rfl (by kernel_rfl) (by kernel_rfl) (v:=vI 0) rfl rfl (by kernel_rfl) (af B0) h (i:=aa.toNat) (f:=2) (p:={{au bI aa with aj:=lI}with from_:=-1}) (q:=({{{au bI aa with aj:=lI}with from_:=-1}with aH:=0})) (cU ((ef (by simpa [bT]using uO)))) (by decide) (by kernel_rfl) λw h=>qq r<|kl<|λ_ r=>nH rfl r<|?_;refine⟨_,rfl,?_⟩;clear r;intro a r;refine qq r<|kn<|ks<|ko [U]<|qh h.m8 λh=>kA h (pts gQ (.cells #[vI 0,vI 0,vI 0,vI 0,vI 0,vI 0] 47)) λw h=>kn<|wr<|br<|tr<|kC h<|qh h.m2.m2 λh=>?_;have Ik:bI.ae.length=(((ic bI aa ({au bI aa with aj:=lI})).set aa.toNat ({{au bI aa with aj:=lI}with from_:=-1})).set aa.toNat ({{{au bI aa with aj:=lI}with from_:=-1}with aH:=0})).length:=h.eY;replace h:=Fit.jZ Ik (λq_=>rowOf 131 188 (aV B0) (.slice ax q_ bD) (((ic bI aa ({au bI aa with aj:=lI})).set aa.toNat ({{au bI aa with aj:=lI}with from_:=-1})).set aa.toNat ({{{au bI aa with aj:=lI}with from_:=-1}with aH:=0}))) (λq_=>pts B0 (.cells #[.iface 33 (pA bU 0),.slice eO bI.code.length eW,vI bI.result,vI bI.aR,vI bI.aJ,vI bI.bC,vI bI.aK,.slice ei bI.aP.length eD,.slice cT bI.ak.length bP,.slice ax q_ bD,vI bI.value,vB bI.left] 110)) h;cases H;exact⟨rJ,rm,oQ,ow,rfl,h.se 10 [1,3,4,5,0,6,7,8,9]⟩
 refine ks<|ko [vB (gV==5),vB (gV==5)]<|kn<|dR H (λoD H=>?_) λoD H=>?_
 ·refine ks<|qg H λzh H=>ko [U,U,U,U]<|qh h.m4 λh=>λ_ r=>bx (wn rfl) rfl r rfl (by kernel_rfl) (by kernel_rfl) (v:=vI 0) rfl rfl (by kernel_rfl) (af B0) h (i:=aa.toNat) (f:=7) (p:=(au bI aa)) (q:=({au bI aa with tries:=0})) (bf zh) (by decide) (by kernel_rfl) λw h=>qq r<|ko [U,U]<|λ_ r=>bx (wn rfl) rfl r rfl (by kernel_rfl) (by kernel_rfl) (v:=vI 9) rfl rfl (by kernel_rfl) (af B0) h (i:=aa.toNat) (f:=2) (p:={au bI aa with tries:=0}) (q:=({{au bI aa with tries:=0}with aH:=9})) (cU (ef zh)) (by decide) (by kernel_rfl) λw h=>qq r<|kn<|ks<|ko [U]<|qh h.m8 λh=>kA h (pts gQ (.cells #[vI 0,vI 0,vI 0,vI 0,vI 0,vI 0] 47)) λw h=>kn<|wr<|br<|tr<|kC h<|qh h.m2.m2 λh=>?_;have Co:bI.ae.length=((ic bI aa ({au bI aa with tries:=0})).set aa.toNat ({{au bI aa with tries:=0}with aH:=9})).length:=h.eY;replace h:=Fit.jZ Co (λq_=>rowOf 131 188 (aV B0) (.slice ax q_ bD) ((ic bI aa ({au bI aa with tries:=0})).set aa.toNat ({{au bI aa with tries:=0}with aH:=9}))) (λq_=>pts B0 (.cells #[.iface 33 (pA bU 0),.slice eO bI.code.length eW,vI bI.result,vI bI.aR,vI bI.aJ,vI bI.bC,vI bI.aK,.slice ei bI.aP.length eD,.slice cT bI.ak.length bP,.slice ax q_ bD,vI bI.value,vB bI.left] 110)) h;cases H;exact⟨rJ,rm,oQ,ow,rfl,h.se 10 [1,3,4,5,0,6,7,8,9]⟩
 refine wk<|bn<|tn<|ks<|qg H λrS H=>ta H λtS Hr MV H=>ko [U]<|eU (dh (fW:=rS) (H:=MV) (h:=h) :) λw h=>qh h.m8 λh=>kA h (fe gQ tS) λw h=>kn<|wr<|kC h<|?_;cases H;exact⟨rJ,rm,oQ,ow,rfl,h.se 10 [1,2,3,4,5,6,7,8,9]⟩
def jH(p0:ai)(bK:ah)(aa:Int):Option (Int):=
 some ((p0.ae.length:Nat):Int)
theorem oz{p0:ai}{bK:ah}{aa r0:Int}{B0 bU er eN eW eD bP bD:Nat}{eu dU eO ei cT ax:Option Addr}(H:jH p0 bK aa=some r0)(h:Fit z (an (fb B0 p0 (.iface 33 (pA bU 0)) eO eW ei eD cT bP ax bD::gD eO eW p0.code::ew ei eD p0.aP::eA cT bP p0.ak::ey B0 ax bD p0.ae::dx bU bK eu er dU eN::iC eu er bK.cell::bY dU eN bK.log::L)) w) :
 Calls Tryz.prog 139 #[.agg #[pA B0 0,vI aa]] w λe w=>e=.returned (vI r0)∧Fit z (an (fb B0 p0 (.iface 33 (pA bU 0)) eO eW ei eD cT bP ax bD::gD eO eW p0.code::ew ei eD p0.aP::eA cT bP p0.ak::ey B0 ax bD p0.ae::dx bU bK eu er dU eN::iC eu er bK.cell::bY dU eN bK.log::L)) w:=by
 unfold jH at H;refine ke Tryz.func139 9 rfl λj=>ks<|kN h (#[pA B0 0,vI aa]) 116 λgQ w h=>ko [U]<|kn<|ks<|ko [U]<|kL h 0<|ko [U,U]<|kL (h.pick 1) 9<|ko [vI ((p0.ae.length:Nat):Int),vI ((p0.ae.length:Nat):Int)]<|kn<|wr<|?_;cases H;exact gu (h.se 9 [1,2,3,4,5,6,7,8])
def nc(K:Nat)(p0:dm)(p1:Int)(p2:List aI):Nat→(List aI)→Int→Option (bu)
 | 0,_,_=>none
 | k1+1,Bs,oW=>(if oW<((p2.length:Nat):Int)then if bT oW p2.length then(if oW=p1 then if bT oW 64 then(nc K p0 p1 p2 k1 (lE 64 Bs oW.toNat (ag p2 oW.toNat)) (wi (oW+1)))else none else(if(ag p2 oW.toNat).iU<1 then some (⟨0,0,0,0,0,0,0,0,0,(List.replicate 64 (⟨0,0⟩:aI)),(⟨0,0,0,0,0,0,0,0,0,0,0,0,0,false,0,0⟩:aC)⟩:bu)else(if(ag p2 oW.toNat).iU>4096 then some (⟨0,0,0,0,0,0,0,0,0,(List.replicate 64 (⟨0,0⟩:aI)),(⟨0,0,0,0,0,0,0,0,0,0,0,0,0,false,0,0⟩:aC)⟩:bu)else if bT oW 64 then(nc K p0 p1 p2 k1 (lE 64 Bs oW.toNat (ag p2 oW.toNat)) (wi (oW+1)))else none)))else none else some (⟨p0.jg,p0.cX,p1,1,1,0,0,0,0,Bs,(⟨0,0,0,0,0,0,0,0,0,0,0,0,0,false,0,0⟩:aC)⟩:bu))
def rA(K:Nat)(p0:dm)(p1:Int)(p2:List aI):Option (bu):=
 vg (eL (kr p0 p1) (λr5=>(if r5=true then(if((p2.length:Nat):Int)=p0.cX then some (.inl ())else some (.inr (⟨0,0,0,0,0,0,0,0,0,(List.replicate 64 (⟨0,0⟩:aI)),(⟨0,0,0,0,0,0,0,0,0,0,0,0,0,false,0,0⟩:aC)⟩:bu)))else some (.inr (⟨0,0,0,0,0,0,0,0,0,(List.replicate 64 (⟨0,0⟩:aI)),(⟨0,0,0,0,0,0,0,0,0,0,0,0,0,false,0,0⟩:aC)⟩:bu))))) ((nc K p0 p1 p2 K (List.replicate 64 (⟨0,0⟩:aI)) 0))
end
end Mo
end
section
namespace Mo
open Go Go.RowKit SL GX
set_option maxRecDepth 100000
set_option maxHeartbeats 4000000
noncomputable section
variable {z w:World}{L:List bE}
theorem ES{K:Nat}{p0:dm}{p1:Int}{p2:List aI}{tT:Option Addr}{uq:Nat}{r0:bu}(H:rA K p0 p1 p2=some r0)(h:Fit z (an (L)) w)(Be:cu L 2 bp tT p2) :
 Calls Tryz.prog 190 #[nu p0,vI p1,.slice tT p2.length uq] w λe w=>e=.returned (gL r0)∧Fit z (an (L)) w:=by
 unfold rA at H;refine ke Tryz.func190 53 rfl λj=>ks<|kN h (pn p0) 106 λb1 w h=>kN h (([vI 0,vI 0,vI 0,vI 0,vI 0,vI 0,vI 0,vI 0,vI 0]++jr 64 bp (List.replicate 64 (⟨0,0⟩:aI))++bw (⟨0,0,0,0,0,0,0,0,0,0,0,0,0,false,0,0⟩:aC)).toArray) 129 λb2 w h=>kn<|?_;obtain⟨o4,H,HR⟩:=AW H;refine λ_ r=>dw (β:=Unit) (λ_ a w=>.inl ()=o4∧∃j,kP 53 (lk [(1,vI p1),(2,.slice tT p2.length uq),(3,pA b1 0),(6,pA b2 0)] j) a∧Fit z (an (UH b1 p0::pts b2 (.cells (([vI 0,vI 0,vI 0,vI 0,vI 0,vI 0,vI 0,vI 0,vI 0]++jr 64 bp (List.replicate 64 (⟨0,0⟩:aI))++bw (⟨0,0,0,0,0,0,0,0,0,0,0,0,0,false,0,0⟩:aC)).toArray) 129)::L)) w) ?_ ?_
 ·refine qq r<|ks<|kM (h.pick 1)<|fO H λr5 e6 H=>ko [U]<|eU (pP (H:=e6) (h:=h) :) λw h=>ko [vB (!r5),vB (!r5)]<|qI H (λc7 H=>?_) λc7 H=>?_
  ·refine cS (nT c7) [15,16,17] [.slice tT p2.length uq,vI ((p2.length:Nat):Int),pA b1 1]<|q9 (nT c7) (h.pick 1) 1<|cS (nT c7) [19] [vB (((p2.length:Nat):Int) != p0.cX)]<|mF (nT c7) (vB (((p2.length:Nat):Int) != p0.cX))<|kn<|oA H (λc8 H=>?_) λc8 H=>?_
   ·refine wk<|tn<|?_;exact λ_ r=>⟨(),gH H,r.fj (h.se 2 [1,0])⟩
   refine ks<|ko [U]<|kA h (pts b2 (.cells (([vI 0,vI 0,vI 0,vI 0,vI 0,vI 0,vI 0,vI 0,vI 0]++jr 64 bp (List.replicate 64 (⟨0,0⟩:aI))++bw (⟨0,0,0,0,0,0,0,0,0,0,0,0,0,false,0,0⟩:aC)).toArray) 129)) λw h=>kn<|wr<|tr<|kC h<|?_;replace H:=sQ H HR;cases H;exact⟨rfl,h.se 2 []⟩
  refine bZ (nF c7) [15,16,17,18,19]<|mH (nF c7) (vB true)<|kn<|λ_ r=>gb r (b:=true) rfl<|qq r<|ks<|ko [U]<|kA h (pts b2 (.cells (([vI 0,vI 0,vI 0,vI 0,vI 0,vI 0,vI 0,vI 0,vI 0]++jr 64 bp (List.replicate 64 (⟨0,0⟩:aI))++bw (⟨0,0,0,0,0,0,0,0,0,0,0,0,0,false,0,0⟩:aC)).toArray) 129)) λw h=>kn<|wr<|tr<|kC h<|?_;replace H:=sQ H HR;cases H;exact⟨rfl,h.se 2 []⟩
 clear h r;rintro _ a w ⟨rfl,j,r,h⟩;replace H:=AX HR;refine qq r<|ks<|kM h<|ko [U,U,U]<|kN h (([vI 0,vI 0,vI 0,vI 0,vI 0,vI 0,vI 0,vI 0,vI 0]++jr 64 bp (List.replicate 64 (⟨0,0⟩:aI))++bw (⟨0,0,0,0,0,0,0,0,0,0,0,0,0,false,0,0⟩:aC)).toArray) 129 λb9 w h=>kA h (pts b9 (.cells (([vI p0.jg,vI p0.cX,vI p1,vI 1,vI 1,vI 0,vI 0,vI 0,vI 0]++jr 64 bp (List.replicate 64 (⟨0,0⟩:aI))++bw (⟨0,0,0,0,0,0,0,0,0,0,0,0,0,false,0,0⟩:aC)).toArray) 129)) λw h=>kn<|wq<|ks<|ko [U,vI ((p2.length:Nat):Int),U]<|kn<|wb<|λ_ r=>dP (β:=Nat) id (λm a w=>∃Bs:List aI,∃oW:Int,(nc K p0 p1 p2 m Bs oW)=some r0∧∃j,kP 53 (lk [(1,vI p1),(6,pA b2 0),(7,pA b9 0),(26,.slice tT p2.length uq),(27,vI ((p2.length:Nat):Int)),(28,vI oW)] j) a∧Fit z (an (pts b2 (.cells (([vI 0,vI 0,vI 0,vI 0,vI 0,vI 0,vI 0,vI 0,vI 0]++jr 64 bp (List.replicate 64 (⟨0,0⟩:aI))++bw (⟨0,0,0,0,0,0,0,0,0,0,0,0,0,false,0,0⟩:aC)).toArray) 129)::pts b9 (.cells (([vI p0.jg,vI p0.cX,vI p1,vI 1,vI 1,vI 0,vI 0,vI 0,vI 0]++jr 64 bp Bs++bw (⟨0,0,0,0,0,0,0,0,0,0,0,0,0,false,0,0⟩:aC)).toArray) 129)::L)) w) K ⟨(List.replicate 64 (⟨0,0⟩:aI)),0,H,r.fj (h.se 3 [2,0])⟩<|?_;clear h r H;rintro k1 a w ⟨Bs,oW,H,j,r,h⟩;cases k1 with
 | zero=>exact absurd H (by simp[nc])
 | succ k1 =>
  rw[nc]at H;refine qq r<|ks<|ko [vB (decide (oW<((p2.length:Nat):Int)))]<|kn<|wq<|dR H (λzQ H=>?_) λzQ H=>?_
  ·refine wk<|tn<|wq<|wb<|ks<|qg H λvk H=>ko [U]<|kj 118 uq Be vk<|λ_ r=>tK (wn rfl) r (fV (ag p2 oW.toNat)) (cs:=jJ (ag p2 oW.toNat)) ⟨Be.cell vk (h.dn 2) 0 rfl,Be.cell vk (h.dn 2) 1 rfl,gE⟩<|?_;refine kN h (#[vI 0,vI 0]) 118 λM1 w h=>ko [U]<|kA h (Gf M1 (ag p2 oW.toNat)) λw h=>kn<|wq<|ks<|ko [U,U,vB (oW != p1),vB (oW != p1)]<|qI H (λnE H=>?_) λnE H=>?_
   ·refine bZ (bne_eq_false_iff_eq.mpr nE) [37,38,39,40]<|Jl false [41,42,43]<|bZ (bne_eq_false_iff_eq.mpr nE) [44]<|mF (bne_eq_false_iff_eq.mpr nE) (vB false)<|kn<|λ_ r=>ik r (b:=false) rfl<|qq r<|wk<|tn<|wl<|ko [U]<|kM h<|qg H λtQ H=>ko [U]<|kp (pA b9 (9+oW.toNat*2)) (Jg (k:=.i64) (E:=118) (N:=64) rfl (by kernel_rfl) (by kernel_rfl) (by kernel_rfl) (by kernel_rfl) tQ)<|qh h.m2 λh=>λ_ r=>yW (C:=[vI p0.jg,vI p0.cX,vI p1,vI 1,vI 1,vI 0,vI 0,vI 0,vI 0]++jr 64 bp Bs++bw (⟨0,0,0,0,0,0,0,0,0,0,0,0,0,false,0,0⟩:aC)) (C':=[vI p0.jg,vI p0.cX,vI p1,vI 1,vI 1,vI 0,vI 0,vI 0,vI 0]++jr 64 bp (lE 64 Bs oW.toNat (ag p2 oW.toNat))++bw (⟨0,0,0,0,0,0,0,0,0,0,0,0,0,false,0,0⟩:aC)) (vs:=jJ (ag p2 oW.toNat)) (wn rfl) rfl r rfl (by kernel_rfl) (by kernel_rfl) rfl (by kernel_rfl) h (Mj (pre:=[vI p0.jg,vI p0.cX,vI p1,vI 1,vI 1,vI 0,vI 0,vI 0,vI 0]) (post:=bw (⟨0,0,0,0,0,0,0,0,0,0,0,0,0,false,0,0⟩:aC)) rfl fa rfl (oU tQ) (Nat.le_refl _)) (HE (y:=(ag p2 oW.toNat)) (pre:=[vI p0.jg,vI p0.cX,vI p1,vI 1,vI 1,vI 0,vI 0,vI 0,vI 0]) (post:=bw (⟨0,0,0,0,0,0,0,0,0,0,0,0,0,false,0,0⟩:aC)) rfl fa rfl (oU tQ) rfl rfl) λw h=>qq r<|kl<|bn<|tn<|wl<|ko [vI (wi (oW+1)),vI (wi (oW+1))]<|kn<|?_;exact λ_ r=>⟨_,⟨(lE 64 Bs oW.toNat (ag p2 oW.toNat)),(wi (oW+1)),H,r.fj (h.se 3 [2,0])⟩,Nat.lt_succ_self _⟩
   refine cS (bne_iff_ne.mpr nE) [37] [pA M1 1]<|λ_ r=>ld (pX r (bne_iff_ne.mpr nE)) r (vI (ag p2 oW.toNat).iU) (h.cell 1 rfl)<|?_;refine cS (bne_iff_ne.mpr nE) [39,40] [vB (decide ((ag p2 oW.toNat).iU<1)),vB (decide ((ag p2 oW.toNat).iU<1))]<|qI H (λyc H=>?_) λyc H=>?_
   ·refine bZ (dT yc) [41,42,43]<|λ_ r=>Ov (pX r (bne_iff_ne.mpr nE)) r (vB true) (Kb (b:=(decide ((ag p2 oW.toNat).iU<1))) rfl (by kernel_rfl) (dT yc) (by kernel_rfl))<|?_;refine mH (bne_iff_ne.mpr nE) (vB true)<|kn<|λ_ r=>gb r (b:=true) rfl<|qq r<|ks<|ko [U]<|qh h.m1 λh=>kA h (pts b2 (.cells (([vI 0,vI 0,vI 0,vI 0,vI 0,vI 0,vI 0,vI 0,vI 0]++jr 64 bp (List.replicate 64 (⟨0,0⟩:aI))++bw (⟨0,0,0,0,0,0,0,0,0,0,0,0,0,false,0,0⟩:aC)).toArray) 129)) λw h=>kn<|wr<|tr<|br<|tr<|tr<|br<|tr<|kC h<|?_;cases H;exact⟨rfl,h.se 3 []⟩
   refine cS (dF yc) [41] [pA M1 1]<|q9 (dF yc) h 1<|cS (dF yc) [43] [vB (decide ((ag p2 oW.toNat).iU>4096))]<|λ_ r=>Ov (pX r (bne_iff_ne.mpr nE)) r (vB (decide ((ag p2 oW.toNat).iU>4096))) (Kc (b:=(decide ((ag p2 oW.toNat).iU<1))) rfl (by kernel_rfl) (dF yc) (by kernel_rfl))<|?_;refine mH (bne_iff_ne.mpr nE) (vB (decide ((ag p2 oW.toNat).iU>4096)))<|kn<|dR H (λDp H=>?_) λDp H=>?_
   ·refine ks<|ko [U]<|qh h.m1 λh=>kA h (pts b2 (.cells (([vI 0,vI 0,vI 0,vI 0,vI 0,vI 0,vI 0,vI 0,vI 0]++jr 64 bp (List.replicate 64 (⟨0,0⟩:aI))++bw (⟨0,0,0,0,0,0,0,0,0,0,0,0,0,false,0,0⟩:aC)).toArray) 129)) λw h=>kn<|wr<|tr<|br<|tr<|tr<|br<|tr<|kC h<|?_;cases H;exact⟨rfl,h.se 3 []⟩
   refine wk<|tn<|wl<|ko [U]<|kM h<|qg H λsy H=>ko [U]<|kp (pA b9 (9+oW.toNat*2)) (Jg (k:=.i64) (E:=118) (N:=64) rfl (by kernel_rfl) (by kernel_rfl) (by kernel_rfl) (by kernel_rfl) sy)<|qh h.m2 λh=>λ_ r=>yW (C:=[vI p0.jg,vI p0.cX,vI p1,vI 1,vI 1,vI 0,vI 0,vI 0,vI 0]++jr 64 bp Bs++bw (⟨0,0,0,0,0,0,0,0,0,0,0,0,0,false,0,0⟩:aC)) (C':=[vI p0.jg,vI p0.cX,vI p1,vI 1,vI 1,vI 0,vI 0,vI 0,vI 0]++jr 64 bp (lE 64 Bs oW.toNat (ag p2 oW.toNat))++bw (⟨0,0,0,0,0,0,0,0,0,0,0,0,0,false,0,0⟩:aC)) (vs:=jJ (ag p2 oW.toNat)) (wn rfl) rfl r rfl (by kernel_rfl) (by kernel_rfl) rfl (by kernel_rfl) h (Mj (pre:=[vI p0.jg,vI p0.cX,vI p1,vI 1,vI 1,vI 0,vI 0,vI 0,vI 0]) (post:=bw (⟨0,0,0,0,0,0,0,0,0,0,0,0,0,false,0,0⟩:aC)) rfl fa rfl (oU sy) (Nat.le_refl _)) (HE (y:=(ag p2 oW.toNat)) (pre:=[vI p0.jg,vI p0.cX,vI p1,vI 1,vI 1,vI 0,vI 0,vI 0,vI 0]) (post:=bw (⟨0,0,0,0,0,0,0,0,0,0,0,0,0,false,0,0⟩:aC)) rfl fa rfl (oU sy) rfl rfl) λw h=>qq r<|kl<|bn<|tn<|wl<|ko [vI (wi (oW+1)),vI (wi (oW+1))]<|kn<|?_;exact λ_ r=>⟨_,⟨(lE 64 Bs oW.toNat (ag p2 oW.toNat)),(wi (oW+1)),H,r.fj (h.se 3 [2,0])⟩,Nat.lt_succ_self _⟩
  refine wx<|te<|te<|bh<|tn<|ks<|kM (h.pick 1)<|kA h (pts b2 (.cells (([vI p0.jg,vI p0.cX,vI p1,vI 1,vI 1,vI 0,vI 0,vI 0,vI 0]++jr 64 bp Bs++bw (⟨0,0,0,0,0,0,0,0,0,0,0,0,0,false,0,0⟩:aC)).toArray) 129)) λw h=>kn<|wr<|kC h<|?_;cases H;exact⟨rfl,h.se 2 []⟩
def mc(K:Nat)(p0:ai)(bK:ah)(aa:Int):Option (ai):=
 eL (rA K (⟨p0.bC,p0.aK⟩:dm) (ag p0.ae aa.toNat).bj p0.aP) (λpZ=>some ({p0 with ae:=((p0.ae.set aa.toNat ({ag p0.ae aa.toNat with bS:=pZ})).set aa.toNat ({{ag p0.ae aa.toNat with bS:=pZ}with parked:=false})).set aa.toNat ({{{ag p0.ae aa.toNat with bS:=pZ}with parked:=false}with aH:=12})}))
theorem sM{K:Nat}{p0 q0:ai}{bK:ah}{aa:Int}{B0 bU er eN eW eD bP bD:Nat}{eu dU eO ei cT ax:Option Addr}(H:mc K p0 bK aa=some q0)(h:Fit z (an (fb B0 p0 (.iface 33 (pA bU 0)) eO eW ei eD cT bP ax bD::gD eO eW p0.code::ew ei eD p0.aP::eA cT bP p0.ak::ey B0 ax bD p0.ae::dx bU bK eu er dU eN::iC eu er bK.cell::bY dU eN bK.log::L)) w)(fW:bT aa p0.ae.length) :
 Calls Tryz.prog 140 #[pA (bg ax) (aa.toNat*188)] w λe w=>e=.returned (.tuple #[])∧Fit z (an (fb B0 q0 (.iface 33 (pA bU 0)) eO eW ei eD cT bP ax bD::gD eO eW q0.code::ew ei eD q0.aP::eA cT bP q0.ak::ey B0 ax bD q0.ae::dx bU bK eu er dU eN::iC eu er bK.cell::bY dU eN bK.log::L)) w:=by
 unfold mc at H;refine ke Tryz.func140 33 rfl λj=>wq<|fO H λpZ Ci H=>λ_ r=>fy [(bg ax,aa.toNat*188,[pA B0 0]),(B0,5,[vI p0.bC,vI p0.aK]),(bg ax,aa.toNat*188+1,[vI (au p0 aa).bj]),(bg ax,aa.toNat*188,[pA B0 0]),(B0,7,[.slice ei p0.aP.length eD])] [2,3,4,6,7,10,11,12,15,16,17,19,20] 26 h (λh=>⟨((h.pick 4).aQ (sz:=188) (i:=aa.toNat) (af B0) (f:=0) (bf fW) (xs:=[pA B0 0]) (by kernel_rfl)),(h.held 5 rfl),((h.pick 4).aQ (sz:=188) (i:=aa.toNat) (af B0) (f:=1) (bf fW) (xs:=[vI (au p0 aa).bj]) (by kernel_rfl)),((h.pick 4).aQ (sz:=188) (i:=aa.toNat) (af B0) (f:=0) (bf fW) (xs:=[pA B0 0]) (by kernel_rfl)),⟨h.cell 7 rfl,gE⟩,gE⟩) λw h hd =>qq r<|gg hd 13 [(0,2,pA (bg ax) (aa.toNat*188)),(1,3,pA (bg ax) (aa.toNat*188)),(2,4,pA (bg ax) (aa.toNat*188)),(3,5,pA (bg ax) (aa.toNat*188)),(4,6,pA (bg ax) (aa.toNat*188)),(9,11,pA (bg ax) (aa.toNat*188)),(10,12,pA (bg ax) (aa.toNat*188)),(11,13,pA (bg ax) (aa.toNat*188)),(12,14,pA (bg ax) (aa.toNat*188+1)),(14,16,pA (bg ax) (aa.toNat*188)),(15,17,pA (bg ax) (aa.toNat*188)),(16,18,pA (bg ax) (aa.toNat*188)),(17,19,pA (bg ax) (aa.toNat*188))]<|kx hd 0 12 5 rfl rfl<|gg hd 10 [(6,8,pA B0 0),(7,9,pA B0 5)]<|tL hd 1 9 8 rfl rfl<|kx hd 2 8 13 rfl rfl<|kx hd 3 7 18 rfl rfl<|gg hd 5 [(19,21,pA B0 0),(20,22,pA B0 7)]<|kx hd 4 4 21 rfl rfl<|λ_ r=>eZ 22 rfl<|qq r<|eU (ES (tT:=ei) (uq:=eD) (Be:=(cu.L2 fa (h.pick 2) (λh=>(h.pick 2)))) (H:=Ci) (h:=h) :) λw h=>kn<|λ_ r=>xE<|gU 2 23 rfl (wn rfl) r (pA (bg ax) (aa.toNat*188))<|?_;refine λ_ r=>gU 1 24 rfl (wn rfl) r (pA (bg ax) (aa.toNat*188+34))<|?_;refine λ_ r=>eZ 25 rfl<|qh h.m4 λh=>fL (vs:=j0 pZ) (f:=34) (i:=aa.toNat) (wn rfl) rfl r rfl (by kernel_rfl) (by kernel_rfl) rfl (by kernel_rfl) (af B0) h (p:=(au p0 aa)) (q:=({au p0 aa with bS:=pZ})) (bf fW) (Nat.le_of_ble_eq_true (by kernel_rfl)) (by kernel_rfl) λw h=>qq r<|kn<|λ_ r=>xE<|ji<|qq r<|tn<|ks<|ko [U,U,U]<|λ_ r=>bx (wn rfl) rfl r rfl (by kernel_rfl) (by kernel_rfl) (v:=vB false) rfl rfl (by kernel_rfl) (af B0) h (i:=aa.toNat) (f:=187) (p:={au p0 aa with bS:=pZ}) (q:=({{au p0 aa with bS:=pZ}with parked:=false})) (cU (ef fW)) (by decide) (by kernel_rfl) λw h=>qq r<|kn<|wl<|ko [U,U,U]<|λ_ r=>bx (wn rfl) rfl r rfl (by kernel_rfl) (by kernel_rfl) (v:=vI 12) rfl rfl (by kernel_rfl) (af B0) h (i:=aa.toNat) (f:=2) (p:={{au p0 aa with bS:=pZ}with parked:=false}) (q:=({{{au p0 aa with bS:=pZ}with parked:=false}with aH:=12})) (cU ((ef (by simpa [bT]using fW)))) (by decide) (by kernel_rfl) λw h=>qq r<|kl<|λ_ r=>nH rfl r<|?_
 have Zn:p0.ae.length=(((ic p0 aa ({au p0 aa with bS:=pZ})).set aa.toNat ({{au p0 aa with bS:=pZ}with parked:=false})).set aa.toNat ({{{au p0 aa with bS:=pZ}with parked:=false}with aH:=12})).length:=h.eY;replace h:=Fit.jZ Zn (λq_=>rowOf 131 188 (aV B0) (.slice ax q_ bD) (((ic p0 aa ({au p0 aa with bS:=pZ})).set aa.toNat ({{au p0 aa with bS:=pZ}with parked:=false})).set aa.toNat ({{{au p0 aa with bS:=pZ}with parked:=false}with aH:=12}))) (λq_=>pts B0 (.cells #[.iface 33 (pA bU 0),.slice eO p0.code.length eW,vI p0.result,vI p0.aR,vI p0.aJ,vI p0.bC,vI p0.aK,.slice ei p0.aP.length eD,.slice cT p0.ak.length bP,.slice ax q_ bD,vI p0.value,vB p0.left] 110)) h;cases H;exact⟨rfl,h.se 8 [1,2,3,4,0,5,6,7]⟩
def sj(p0:bu):Option (Bool):=
 (if p0.cP=1 then some (p0.aA==5)else some false)
theorem Ct{p0:bu}{r0:Bool}(H:sj p0=some r0)(h:Fit z (an (L)) w) :
 Calls Tryz.prog 143 #[gL p0] w λe w=>e=.returned (vB r0)∧Fit z (an (L)) w:=by
 unfold sj at H;refine ke Tryz.func143 13 rfl λj=>ks<|kN h (lM p0) 129 λb1 w h=>ko [U]<|kn<|ks<|ko [U,U]<|kL h 3<|ko [vB (p0.cP==1),vB (p0.cP==1)]<|qI H (λc2 H=>?_) λc2 H=>?_
 ·refine cS (beq_iff_eq.mpr c2) [8,9] [pA b1 0,pA b1 4]<|λ_ r=>ld (pX r (beq_iff_eq.mpr c2)) r (vI p0.aA) (h.cell 4 rfl)<|?_;refine cS (beq_iff_eq.mpr c2) [11] [vB (p0.aA==5)]<|mH (beq_iff_eq.mpr c2) (vB (p0.aA==5))<|ko [vB (p0.aA==5)]<|kn<|wr<|?_;cases H;exact gu (h.se 1 [])
 refine bZ (bN c2) [8,9,10,11]<|mF (bN c2) (vB false)<|ko [U]<|kn<|wr<|?_;cases H;exact gu (h.se 1 [])
def bL(p0:ai)(bK:ah)(aa:Int)(p1:aF):Option (aD×ai×ah):=
 C2 (iA p0 bK aa) (λgV lI bI nn=>(if gV=0 then if bT aa bI.ae.length then eL (sj (ag bI.ae aa.toNat).bS) (λuZ=>(if uZ=true then(if(ag bI.ae aa.toNat).parked=true then some ((⟨0,0,0,0,0,0⟩:aD),bI,nn)else some ((⟨0,0,9,0,0,0⟩:aD),{bI with ae:=bI.ae.set aa.toNat ({ag bI.ae aa.toNat with parked:=true})},nn))else some ((⟨0,0,0,0,0,0⟩:aD),bI,nn)))else none else(if gV=16 then if bT aa bI.ae.length then some ((⟨0,0,0,0,0,0⟩:aD),{bI with ae:=(bI.ae.set aa.toNat ({ag bI.ae aa.toNat with tries:=0})).set aa.toNat ({{ag bI.ae aa.toNat with tries:=0}with aH:=9})},nn)else none else(if gV=17 then if bT aa bI.ae.length then pL (jq bI nn aa) (λyJ qb=>some (yJ,qb,nn))else none else if bT aa bI.ae.length then pL (de bI nn aa) (λQG EP=>some (QG,EP,nn))else none))))
theorem j6{p0 q0:ai}{bK fP:ah}{aa:Int}{p1:aF}{B0 bU er eN eW eD bP bD B1:Nat}{eu dU eO ei cT ax:Option Addr}{r0:aD}(H:bL p0 bK aa p1=some (r0,q0,fP))(h:Fit z (an (fb B0 p0 (.iface 33 (pA bU 0)) eO eW ei eD cT bP ax bD::gD eO eW p0.code::ew ei eD p0.aP::eA cT bP p0.ak::ey B0 ax bD p0.ae::dx bU bK eu er dU eN::iC eu er bK.cell::bY dU eN bK.log::qU B1 p1::L)) w)(fW:bT aa p0.ae.length) :
 Calls Tryz.prog 97 #[pA (bg ax) (aa.toNat*188),.iface 42 (pA B1 0)] w λe w=>∃cF cG cH cI,e=.returned (dY r0)∧Fit z (an (fb B0 q0 (.iface 33 (pA bU 0)) eO eW ei eD cT bP ax bD::gD eO eW q0.code::ew ei eD q0.aP::eA cT bP q0.ak::ey B0 ax bD q0.ae::dx bU fP cF cG cH cI::iC cF cG fP.cell::bY cH cI fP.log::qU B1 p1::L)) w:=by
 unfold bL at H;refine ke Tryz.func97 47 rfl λj=>ks<|kN h (#[vI 0,vI 0,vI 0,vI 0,vI 0,vI 0]) 47 λgQ w h=>kn<|ks<|HG H λgV lI bI nn ye H=>ko [U]<|qh h.m8.m8.m8.m8.m8.m8.m8.m8 λh=>jz (nG (fW:=fW) (H:=ye) (h:=h) :) λrJ rm oQ ow w h=>ko [.tuple #[vI gV,vI lI],U,U,U,U]<|kn<|wq<|ks<|ko [U]<|kn<|wb<|ks<|ko [vB (gV==0),vB (gV==0)]<|kn<|dR H (λvY H=>?_) λvY H=>?_
 ·refine wq<|ks<|qg H λwS H=>ko [U,U,U]<|λ_ r=>tK (wn rfl) r (gL (au bI aa).bS) (cs:=j0 (au bI aa).bS) ((h.pick 4).aQ (sz:=188) (i:=aa.toNat) (af B0) (f:=34) (bf wS) (xs:=j0 (au bI aa).bS) (by kernel_rfl))<|?_;refine fO H λuZ U9 H=>eU (Ct (H:=U9) (h:=h) :) λw h=>ko [U]<|qI H (λoD H=>?_) λoD H=>?_
  ·refine cS (oD) [21,22,23] [pA (bg ax) (aa.toNat*188),pA (bg ax) (aa.toNat*188),pA (bg ax) (aa.toNat*188+187)]<|λ_ r=>ld (pX r (oD)) r (vB (au bI aa).parked) ((h.pick 4).cL (sz:=188) (i:=aa.toNat) (af B0) (f:=187) (bf wS) (by kernel_rfl))<|?_;refine cS (oD) [25] [vB (!(au bI aa).parked)]<|mH (oD) (vB (!(au bI aa).parked))<|kn<|C3 H (λzh H=>?_) λzh H=>?_
   ·refine wk<|tn<|ks<|ko [U]<|qh h.m8 λh=>kA h (pts gQ (.cells #[vI 0,vI 0,vI 0,vI 0,vI 0,vI 0] 47)) λw h=>kn<|wr<|br<|tr<|kC h<|?_;cases H;exact⟨rJ,rm,oQ,ow,rfl,h.se 10 [1,2,3,4,5,6,7,8,9]⟩
   refine ks<|ko [U,U,U]<|qh h.m4 λh=>λ_ r=>bx (wn rfl) rfl r rfl (by kernel_rfl) (by kernel_rfl) (v:=vB true) rfl rfl (by kernel_rfl) (af B0) h (i:=aa.toNat) (f:=187) (p:=(au bI aa)) (q:=({au bI aa with parked:=true})) (bf wS) (by decide) (by kernel_rfl) λw h=>qq r<|kn<|ks<|ko [U]<|qh h.m8 λh=>kA h (pts gQ (.cells #[vI 0,vI 0,vI 9,vI 0,vI 0,vI 0] 47)) λw h=>kn<|wr<|tr<|br<|tr<|kC h<|qh h.m2.m2 λh=>?_;have Co:bI.ae.length=(ic bI aa ({au bI aa with parked:=true})).length:=h.eY;replace h:=Fit.jZ Co (λq_=>rowOf 131 188 (aV B0) (.slice ax q_ bD) (ic bI aa ({au bI aa with parked:=true}))) (λq_=>pts B0 (.cells #[.iface 33 (pA bU 0),.slice eO bI.code.length eW,vI bI.result,vI bI.aR,vI bI.aJ,vI bI.bC,vI bI.aK,.slice ei bI.aP.length eD,.slice cT bI.ak.length bP,.slice ax q_ bD,vI bI.value,vB bI.left] 110)) h;cases H;exact⟨rJ,rm,oQ,ow,rfl,h.se 10 [1,3,4,5,0,6,7,8,9]⟩
  refine bZ (bF oD) [21,22,23,24,25]<|mF (bF oD) (vB false)<|kn<|λ_ r=>ik r (b:=false) rfl<|qq r<|wk<|tn<|ks<|ko [U]<|qh h.m8 λh=>kA h (pts gQ (.cells #[vI 0,vI 0,vI 0,vI 0,vI 0,vI 0] 47)) λw h=>kn<|wr<|br<|tr<|kC h<|?_;cases H;exact⟨rJ,rm,oQ,ow,rfl,h.se 10 [1,2,3,4,5,6,7,8,9]⟩
 refine ks<|ko [vB (gV==16),vB (gV==16)]<|kn<|dR H (λrS H=>?_) λrS H=>?_
 ·refine ks<|qg H λuR H=>ko [U,U,U,U]<|qh h.m4 λh=>λ_ r=>bx (wn rfl) rfl r rfl (by kernel_rfl) (by kernel_rfl) (v:=vI 0) rfl rfl (by kernel_rfl) (af B0) h (i:=aa.toNat) (f:=7) (p:=(au bI aa)) (q:=({au bI aa with tries:=0})) (bf uR) (by decide) (by kernel_rfl) λw h=>qq r<|ko [U,U]<|λ_ r=>bx (wn rfl) rfl r rfl (by kernel_rfl) (by kernel_rfl) (v:=vI 9) rfl rfl (by kernel_rfl) (af B0) h (i:=aa.toNat) (f:=2) (p:={au bI aa with tries:=0}) (q:=({{au bI aa with tries:=0}with aH:=9})) (cU (ef uR)) (by decide) (by kernel_rfl) λw h=>qq r<|kn<|ks<|ko [U]<|qh h.m8 λh=>kA h (pts gQ (.cells #[vI 0,vI 0,vI 0,vI 0,vI 0,vI 0] 47)) λw h=>kn<|wr<|br<|tr<|kC h<|qh h.m2.m2 λh=>?_;have M3:bI.ae.length=((ic bI aa ({au bI aa with tries:=0})).set aa.toNat ({{au bI aa with tries:=0}with aH:=9})).length:=h.eY;replace h:=Fit.jZ M3 (λq_=>rowOf 131 188 (aV B0) (.slice ax q_ bD) ((ic bI aa ({au bI aa with tries:=0})).set aa.toNat ({{au bI aa with tries:=0}with aH:=9}))) (λq_=>pts B0 (.cells #[.iface 33 (pA bU 0),.slice eO bI.code.length eW,vI bI.result,vI bI.aR,vI bI.aJ,vI bI.bC,vI bI.aK,.slice ei bI.aP.length eD,.slice cT bI.ak.length bP,.slice ax q_ bD,vI bI.value,vB bI.left] 110)) h;cases H;exact⟨rJ,rm,oQ,ow,rfl,h.se 10 [1,3,4,5,0,6,7,8,9]⟩
 refine ks<|ko [vB (gV==17),vB (gV==17)]<|kn<|dR H (λxz H=>?_) λxz H=>?_
 ·refine ks<|qg H λzb H=>ta H λyJ qb Ku H=>ko [U]<|eU (oI (fW:=zb) (H:=Ku) (h:=h) :) λw h=>qh h.m8 λh=>kA h (fe gQ yJ) λw h=>kn<|wr<|br<|tr<|kC h<|?_;cases H;exact⟨rJ,rm,oQ,ow,rfl,h.se 10 [1,2,3,4,5,6,7,8,9]⟩
 refine wk<|bn<|tn<|ks<|qg H λQr H=>ta H λQG EP Vp H=>ko [U]<|eU (dh (fW:=Qr) (H:=Vp) (h:=h) :) λw h=>qh h.m8 λh=>kA h (fe gQ QG) λw h=>kn<|wr<|kC h<|?_;cases H;exact⟨rJ,rm,oQ,ow,rfl,h.se 10 [1,2,3,4,5,6,7,8,9]⟩
def xo(p0:Int)(p1:Int):Option (Int):=
 (if p1<1 then some 0 else if p1≠0 then(if(p0.tmod p1)<0 then some (wi ((p0.tmod p1)+p1))else some (p0.tmod p1))else none)
theorem Cu{p0 p1 r0:Int}(H:xo p0 p1=some r0)(h:Fit z (an (L)) w) :
 Calls Tryz.prog 63 #[vI p0,vI p1] w λe w=>e=.returned (vI r0)∧Fit z (an (L)) w:=by
 unfold xo at H;refine ke Tryz.func63 17 rfl λj=>ks<|ko [U]<|kn<|wq<|ks<|ko [U,vB (decide (p1<1))]<|kn<|dR H (λc1 H=>?_) λc1 H=>?_
 ·refine ks<|ko [U]<|kn<|wr<|tr<|?_;cases H;exact gu h
 refine wk<|tn<|ks<|qg H λc2 H=>ko [U,U]<|kp (vI (p0.tmod p1)) (LV rfl (by kernel_rfl) (by kernel_rfl) c2)<|ko [vI (p0.tmod p1)]<|kn<|wq<|ks<|ko [vI (p0.tmod p1),vB (decide ((p0.tmod p1)<0))]<|kn<|dR H (λc3 H=>?_) λc3 H=>?_
 ·refine wl<|ko [vI (p0.tmod p1),U,vI (wi ((p0.tmod p1)+p1)),vI (wi ((p0.tmod p1)+p1))]<|kn<|ks<|ko [vI (wi ((p0.tmod p1)+p1)),vI (wi ((p0.tmod p1)+p1))]<|kn<|wr<|?_;cases H;exact gu h
 refine wk<|tn<|ks<|ko [vI (p0.tmod p1),vI (p0.tmod p1)]<|kn<|wr<|?_;cases H;exact gu h
def uf(p0:aI):Option (aC):=
 eL (lT 3 2 p0 0) (λr3=>some r3)
theorem Cv{p0:aI}{r0:aC}(H:uf p0=some r0)(h:Fit z (an (L)) w) :
 Calls Tryz.prog 141 #[fV p0] w λe w=>e=.returned (dX r0)∧Fit z (an (L)) w:=by
 unfold uf at H;refine ke Tryz.func141 5 rfl λj=>ks<|kN h (lW p0) 118 λb1 w h=>kN h (#[vI 0,vI 0,vI 0,vI 0,vI 0,vI 0,vI 0,vI 0,vI 0,vI 0,vI 0,vI 0,vI 0,vB false,vI 0,vI 0]) 120 λb2 w h=>kn<|ks<|kM (h.pick 1)<|fO H λr3 e4 H=>eU (qB (H:=e4) (h:=h) :) λw h=>kA h (cZ b2 r3) λw h=>kn<|wr<|kC h<|?_;cases H;exact⟨rfl,h.se 2 []⟩
def td(p0:dm):Option (bu):=
 eL (mu p0.cX) (λr3=>(if r3=0 then some (⟨0,0,0,0,0,0,0,0,0,(List.replicate 64 (⟨0,0⟩:aI)),(⟨0,0,0,0,0,0,0,0,0,0,0,0,0,false,0,0⟩:aC)⟩:bu)else some (⟨p0.jg,p0.cX,0,3,3,0,0,0,0,(List.replicate 64 (⟨0,0⟩:aI)),(⟨0,0,0,0,0,0,0,0,0,0,0,0,0,false,0,0⟩:aC)⟩:bu)))
theorem ET{p0:dm}{r0:bu}(H:td p0=some r0)(h:Fit z (an (L)) w) :
 Calls Tryz.prog 142 #[nu p0] w λe w=>e=.returned (gL r0)∧Fit z (an (L)) w:=by
 unfold td at H;refine ke Tryz.func142 11 rfl λj=>ks<|kN h (pn p0) 106 λb1 w h=>kN h (([vI 0,vI 0,vI 0,vI 0,vI 0,vI 0,vI 0,vI 0,vI 0]++jr 64 bp (List.replicate 64 (⟨0,0⟩:aI))++bw (⟨0,0,0,0,0,0,0,0,0,0,0,0,0,false,0,0⟩:aC)).toArray) 129 λb2 w h=>kn<|wq<|ks<|ko [U]<|kL (h.pick 1) 1<|fO H λr3 e4 H=>eU (rF (H:=e4) (h:=h) :) λw h=>ko [vB (r3==0)]<|kn<|dR H (λc5 H=>?_) λc5 H=>?_
 ·refine ks<|ko [U]<|kA h (pts b2 (.cells (([vI 0,vI 0,vI 0,vI 0,vI 0,vI 0,vI 0,vI 0,vI 0]++jr 64 bp (List.replicate 64 (⟨0,0⟩:aI))++bw (⟨0,0,0,0,0,0,0,0,0,0,0,0,0,false,0,0⟩:aC)).toArray) 129)) λw h=>kn<|wr<|tr<|kC h<|?_;cases H;exact⟨rfl,h.se 2 []⟩
 refine wk<|tn<|ks<|kM (h.pick 1)<|ko [U,U]<|kA h (pts b2 (.cells (([vI p0.jg,vI p0.cX,vI 0,vI 3,vI 3,vI 0,vI 0,vI 0,vI 0]++jr 64 bp (List.replicate 64 (⟨0,0⟩:aI))++bw (⟨0,0,0,0,0,0,0,0,0,0,0,0,0,false,0,0⟩:aC)).toArray) 129)) λw h=>kn<|wr<|kC h<|?_;cases H;exact⟨rfl,h.se 2 []⟩
def cn(p0:ai)(bK:ah)(aa:Int)(p1:aF):Option (aD×ai×ah):=
 C2 (jG p0 bK aa) (λgV lI bI nn=>(if gV=0 then some ((⟨0,0,0,0,0,0⟩:aD),bI,nn)else(if gV=4 then if bT aa bI.ae.length then some ((⟨0,0,8,({{{ag bI.ae aa.toNat with aj:=lI}with from_:=(ag bI.ae aa.toNat).dB}with aH:=0}).aj,({{{ag bI.ae aa.toNat with aj:=lI}with from_:=(ag bI.ae aa.toNat).dB}with aH:=0}).dB,0⟩:aD),{bI with ae:=((bI.ae.set aa.toNat ({ag bI.ae aa.toNat with aj:=lI})).set aa.toNat ({{ag bI.ae aa.toNat with aj:=lI}with from_:=(ag bI.ae aa.toNat).dB})).set aa.toNat ({{{ag bI.ae aa.toNat with aj:=lI}with from_:=(ag bI.ae aa.toNat).dB}with aH:=0})},nn)else none else eL ((if gV=5 then some (gV==5)else some (gV==6))) (λVq=>(if Vq=true then if bT aa bI.ae.length then eL (td (⟨bI.bC,bI.aK⟩:dm)) (λDv=>some ((⟨0,0,0,0,0,0⟩:aD),{bI with ae:=((bI.ae.set aa.toNat ({ag bI.ae aa.toNat with tries:=wi ((ag bI.ae aa.toNat).tries+1)})).set aa.toNat ({{ag bI.ae aa.toNat with tries:=wi ((ag bI.ae aa.toNat).tries+1)}with bS:=Dv})).set aa.toNat ({{{ag bI.ae aa.toNat with tries:=wi ((ag bI.ae aa.toNat).tries+1)}with bS:=Dv}with aH:=11})},nn))else none else if bT aa bI.ae.length then pL (de bI nn aa) (λxK KW=>some (xK,KW,nn))else none)))))
theorem jS{p0 q0:ai}{bK fP:ah}{aa:Int}{p1:aF}{B0 bU er eN eW eD bP bD B1:Nat}{eu dU eO ei cT ax:Option Addr}{r0:aD}(H:cn p0 bK aa p1=some (r0,q0,fP))(h:Fit z (an (fb B0 p0 (.iface 33 (pA bU 0)) eO eW ei eD cT bP ax bD::gD eO eW p0.code::ew ei eD p0.aP::eA cT bP p0.ak::ey B0 ax bD p0.ae::dx bU bK eu er dU eN::iC eu er bK.cell::bY dU eN bK.log::qU B1 p1::L)) w)(fW:bT aa p0.ae.length) :
 Calls Tryz.prog 95 #[pA (bg ax) (aa.toNat*188),.iface 42 (pA B1 0)] w λe w=>∃cF cG cH cI,e=.returned (dY r0)∧Fit z (an (fb B0 q0 (.iface 33 (pA bU 0)) eO eW ei eD cT bP ax bD::gD eO eW q0.code::ew ei eD q0.aP::eA cT bP q0.ak::ey B0 ax bD q0.ae::dx bU fP cF cG cH cI::iC cF cG fP.cell::bY cH cI fP.log::qU B1 p1::L)) w:=by
 unfold cn at H;refine ke Tryz.func95 62 rfl λj=>ks<|kN h (#[vI 0,vI 0,vI 0,vI 0,vI 0,vI 0]) 47 λgQ w h=>kn<|wq<|ks<|HG H λgV lI bI nn ye H=>ko [U]<|qh h.m8.m8.m8.m8.m8.m8.m8.m8 λh=>jz (oy (fW:=fW) (H:=ye) (h:=h) :) λrJ rm oQ ow w h=>ko [.tuple #[vI gV,vI lI],U,U,U,U]<|kn<|ks<|ko [U]<|kn<|wb<|ks<|ko [vB (gV==0),vB (gV==0)]<|kn<|dR H (λvY H=>?_) λvY H=>?_
 ·refine ks<|ko [U]<|qh h.m8 λh=>kA h (pts gQ (.cells #[vI 0,vI 0,vI 0,vI 0,vI 0,vI 0] 47)) λw h=>kn<|wr<|br<|tr<|kC h<|?_;cases H;exact⟨rJ,rm,oQ,ow,rfl,h.se 10 [1,2,3,4,5,6,7,8,9]⟩
 refine ks<|ko [vB (gV==4),vB (gV==4)]<|kn<|dR H (λwS H=>?_) λwS H=>?_
 ·refine ks<|qg H λuO H=>ko [U,U,U,U,U]<|λ_ r=>ld (wn rfl) r (vI (au bI aa).dB) ((h.pick 4).cL (sz:=188) (i:=aa.toNat) (af B0) (f:=8) (bf uO) (by kernel_rfl))<|?_;intro _ r;refine yn (wn rfl) rfl rfl r (f:=52) (args:=#[pA (bg ax) (aa.toNat*188),vI lI,vI (au bI aa).dB]) (by kernel_rfl) ?_;clear r;refine enter Tryz.func52 rfl 17 rfl rfl [(0,pA (bg ax) (aa.toNat*188)),(1,vI lI),(2,vI (au bI aa).dB)] ⟨by kernel_rfl,by kernel_rfl,by kernel_rfl,gE⟩ ?_;intro j a r;refine qq r<|wl<|ko [U,U,U,U,U,U,U]<|qh h.m4 λh=>λ_ r=>bx (wn rfl) rfl r rfl (by kernel_rfl) (by kernel_rfl) (v:=vI lI) rfl rfl (by kernel_rfl) (af B0) h (i:=aa.toNat) (f:=3) (p:=(au bI aa)) (q:=({au bI aa with aj:=lI})) (bf uO) (by decide) (by kernel_rfl) λw h=>qq r<|ko [U,U]<|λ_ r=>bx (wn rfl) rfl r rfl (by kernel_rfl) (by kernel_rfl) (v:=vI (au bI aa).dB) rfl rfl (by kernel_rfl) (af B0) h (i:=aa.toNat) (f:=4) (p:={au bI aa with aj:=lI}) (q:=({{au bI aa with aj:=lI}with from_:=(au bI aa).dB})) (cU (ef uO)) (by decide) (by kernel_rfl) λw h=>qq r<|ko [U,U]<|λ_ r=>bx (wn rfl) rfl r rfl (by kernel_rfl) (by kernel_rfl) (v:=vI 0) rfl rfl (by kernel_rfl) (af B0) h (i:=aa.toNat) (f:=2) (p:={{au bI aa with aj:=lI}with from_:=(au bI aa).dB}) (q:=({{{au bI aa with aj:=lI}with from_:=(au bI aa).dB}with aH:=0})) (cU ((ef (by simpa [bT]using uO)))) (by decide) (by kernel_rfl) λw h=>qq r<|kl<|λ_ r=>nH rfl r<|?_;refine⟨_,rfl,?_⟩;clear r;intro a r;refine qq r<|kn<|wq<|λ_ r=>fy [(bg ax,aa.toNat*188+3,[vI ({{{au bI aa with aj:=lI}with from_:=(au bI aa).dB}with aH:=0}).aj]),(bg ax,aa.toNat*188+8,[vI ({{{au bI aa with aj:=lI}with from_:=(au bI aa).dB}with aH:=0}).dB])] [1,2,5,6] 10 h (λh=>⟨(h.aQ (sz:=188) (i:=aa.toNat) (af B0) (f:=3) (cU ((ef (by simpa [bT]using uO)))) (xs:=[vI ({{{au bI aa with aj:=lI}with from_:=(au bI aa).dB}with aH:=0}).aj]) (by kernel_rfl)),(h.aQ (sz:=188) (i:=aa.toNat) (af B0) (f:=8) (cU ((ef (by simpa [bT]using uO)))) (xs:=[vI ({{{au bI aa with aj:=lI}with from_:=(au bI aa).dB}with aH:=0}).dB]) (by kernel_rfl)),gE⟩) λw h hd =>qq r<|gg hd 4 [(0,25,pA (bg ax) (aa.toNat*188)),(1,26,pA (bg ax) (aa.toNat*188)),(2,27,pA (bg ax) (aa.toNat*188+3)),(4,29,pA (bg ax) (aa.toNat*188)),(5,30,pA (bg ax) (aa.toNat*188)),(6,31,pA (bg ax) (aa.toNat*188+8))]<|kx hd 0 3 3 rfl rfl<|kx hd 1 2 7 rfl rfl<|gg hd 1 [(8,33,.agg #[vI 0,vI 0,vI 8,vI ({{{au bI aa with aj:=lI}with from_:=(au bI aa).dB}with aH:=0}).aj,vI ({{{au bI aa with aj:=lI}with from_:=(au bI aa).dB}with aH:=0}).dB,vI 0])]<|λ_ r=>eZ 9 rfl<|qh h.m8 λh=>qq r<|kA h (pts gQ (.cells #[vI 0,vI 0,vI 8,vI ({{{au bI aa with aj:=lI}with from_:=(au bI aa).dB}with aH:=0}).aj,vI ({{{au bI aa with aj:=lI}with from_:=(au bI aa).dB}with aH:=0}).dB,vI 0] 47)) λw h=>kn<|λ_ r=>xE<|ji<|qq r<|tn<|wr<|br<|tr<|kC h<|qh h.m2.m2 λh=>?_
  have Ik:bI.ae.length=(((ic bI aa ({au bI aa with aj:=lI})).set aa.toNat ({{au bI aa with aj:=lI}with from_:=(au bI aa).dB})).set aa.toNat ({{{au bI aa with aj:=lI}with from_:=(au bI aa).dB}with aH:=0})).length:=h.eY;replace h:=Fit.jZ Ik (λq_=>rowOf 131 188 (aV B0) (.slice ax q_ bD) (((ic bI aa ({au bI aa with aj:=lI})).set aa.toNat ({{au bI aa with aj:=lI}with from_:=(au bI aa).dB})).set aa.toNat ({{{au bI aa with aj:=lI}with from_:=(au bI aa).dB}with aH:=0}))) (λq_=>pts B0 (.cells #[.iface 33 (pA bU 0),.slice eO bI.code.length eW,vI bI.result,vI bI.aR,vI bI.aJ,vI bI.bC,vI bI.aK,.slice ei bI.aP.length eD,.slice cT bI.ak.length bP,.slice ax q_ bD,vI bI.value,vB bI.left] 110)) h;cases H;exact⟨rJ,rm,oQ,ow,rfl,h.se 10 [1,3,4,5,0,6,7,8,9]⟩
 refine El H λWS H Rq=>λ_ r=>dw (β:=Unit) (λ_ a w=>∃Vq:Bool,Vq=WS∧∃j,kP 62 (lk [(0,pA (bg ax) (aa.toNat*188)),(4,pA gQ 0),(34,vB Vq)] j) a∧Fit z (an (pts gQ (.cells #[vI 0,vI 0,vI 0,vI 0,vI 0,vI 0] 47)::fb B0 bI (.iface 33 (pA bU 0)) eO eW ei eD cT bP ax bD::dx bU nn rJ rm oQ ow::iC rJ rm nn.cell::bY oQ ow nn.log::gD eO eW bI.code::ew ei eD bI.aP::eA cT bP bI.ak::ey B0 ax bD bI.ae::qU B1 p1::L)) w) ?_ ?_
 ·refine qq r<|ks<|ko [vB (gV==5),vB (gV==5)]<|kn<|dR H (λrS H=>?_) λrS H=>?_
  ·refine wk<|tn<|?_;exact λ_ r=>⟨(),(gV==5),gH H,r.fj (h.se 10 [8,0,5,6,7,1,2,3,4,9])⟩
  refine wl<|ko [vB (gV==6),vB (gV==6)]<|kn<|?_;exact λ_ r=>⟨(),(gV==6),gH H,r.fj (h.se 10 [8,0,5,6,7,1,2,3,4,9])⟩
 clear h r;rintro _ a w ⟨Vq,rfl,j,r,h⟩;replace H:=Eg Rq;refine qq r<|De H (λuR H=>?_) λuR H=>?_
 ·refine ks<|qg H λB9 H=>ko [U,U,U]<|λ_ r=>ld (wn rfl) r (vI (au bI aa).tries) ((h.pick 8).cL (sz:=188) (i:=aa.toNat) (af B0) (f:=7) (bf B9) (by kernel_rfl))<|?_;refine ko [vI (wi ((au bI aa).tries+1)),U,U]<|qh h.m8 λh=>λ_ r=>bx (wn rfl) rfl r rfl (by kernel_rfl) (by kernel_rfl) (v:=vI (wi ((au bI aa).tries+1))) rfl rfl (by kernel_rfl) (af B0) h (i:=aa.toNat) (f:=7) (p:=(au bI aa)) (q:=({au bI aa with tries:=wi ((au bI aa).tries+1)})) (bf B9) (by decide) (by kernel_rfl) λw h=>qq r<|kn<|ks<|ko [U,U,U,U,U]<|λ_ r=>ld (wn rfl) r (pA B0 0) (h.cL (sz:=188) (i:=aa.toNat) (af B0) (f:=0) (cU (ef B9)) (by kernel_rfl))<|?_;refine ko [U,U]<|λ_ r=>tK (wn rfl) r (.agg #[vI bI.bC,vI bI.aK]) (cs:=[vI bI.bC,vI bI.aK]) ((h.pick 2).held 5 rfl)<|?_;refine fO H λDv e34 H=>eU (ET (H:=e34) (h:=h) :) λw h=>ko [U,U]<|λ_ r=>fL (vs:=j0 Dv) (f:=34) (i:=aa.toNat) (wn rfl) rfl r rfl (by kernel_rfl) (by kernel_rfl) rfl (by kernel_rfl) (af B0) h (p:={au bI aa with tries:=wi ((au bI aa).tries+1)}) (q:=({{au bI aa with tries:=wi ((au bI aa).tries+1)}with bS:=Dv})) (cU (ef B9)) (Nat.le_of_ble_eq_true (by kernel_rfl)) (by kernel_rfl) λw h=>qq r<|kn<|ks<|ko [U,U,U]<|λ_ r=>bx (wn rfl) rfl r rfl (by kernel_rfl) (by kernel_rfl) (v:=vI 11) rfl rfl (by kernel_rfl) (af B0) h (i:=aa.toNat) (f:=2) (p:={{au bI aa with tries:=wi ((au bI aa).tries+1)}with bS:=Dv}) (q:=({{{au bI aa with tries:=wi ((au bI aa).tries+1)}with bS:=Dv}with aH:=11})) (cU ((ef (by simpa [bT]using B9)))) (by decide) (by kernel_rfl) λw h=>qq r<|kn<|ks<|ko [U]<|qh h.m1 λh=>kA h (pts gQ (.cells #[vI 0,vI 0,vI 0,vI 0,vI 0,vI 0] 47)) λw h=>kn<|wr<|br<|tr<|kC h<|qh h.m2.m2 λh=>?_;have Zo:bI.ae.length=(((ic bI aa ({au bI aa with tries:=wi ((au bI aa).tries+1)})).set aa.toNat ({{au bI aa with tries:=wi ((au bI aa).tries+1)}with bS:=Dv})).set aa.toNat ({{{au bI aa with tries:=wi ((au bI aa).tries+1)}with bS:=Dv}with aH:=11})).length:=h.eY;replace h:=Fit.jZ Zo (λq_=>rowOf 131 188 (aV B0) (.slice ax q_ bD) (((ic bI aa ({au bI aa with tries:=wi ((au bI aa).tries+1)})).set aa.toNat ({{au bI aa with tries:=wi ((au bI aa).tries+1)}with bS:=Dv})).set aa.toNat ({{{au bI aa with tries:=wi ((au bI aa).tries+1)}with bS:=Dv}with aH:=11}))) (λq_=>pts B0 (.cells #[.iface 33 (pA bU 0),.slice eO bI.code.length eW,vI bI.result,vI bI.aR,vI bI.aJ,vI bI.bC,vI bI.aK,.slice ei bI.aP.length eD,.slice cT bI.ak.length bP,.slice ax q_ bD,vI bI.value,vB bI.left] 110)) h;cases H;exact⟨rJ,rm,oQ,ow,rfl,h.se 10 [1,6,7,8,0,3,4,5,9]⟩
 refine wk<|bn<|tn<|ks<|qg H λHh H=>ta H λxK KW Pm H=>ko [U]<|qh h.m4.m4.m4.m8.m8.m8.m8.m8 λh=>eU (dh (fW:=Hh) (H:=Pm) (h:=h) :) λw h=>qh h.m8 λh=>kA h (fe gQ xK) λw h=>kn<|wr<|kC h<|?_;cases H;exact⟨rJ,rm,oQ,ow,rfl,h.se 10 [1,2,3,4,5,6,7,8,9]⟩
def fc(K:Nat)(p0:ai)(bK:ah)(aa:Int)(p1:aF):Option (aD×ai×ah×aF):=
 eL (jH p0 bK (ag p0.ae aa.toNat).bj) (λgV=>(if gV=1 then eL (mc K p0 bK aa) (λnn=>if bT aa nn.ae.length then nC (bL nn bK aa p1) (λyf xI S22=>some (yf,xI,S22,p1))else none)else eL (jH p0 bK (ag p0.ae aa.toNat).bj) (λyM=>eL (xo (AY p1) (wi (yM-1))) (λvj=>eL (jH p0 bK (ag p0.ae aa.toNat).bj) (λr32=>eL (xo (wi ((wi ((ag p0.ae aa.toNat).bj+1))+vj)) r32) (λnW=>if bT ({ag p0.ae aa.toNat with dB:=nW}).dB p0.aP.length then eL (uf (ag p0.aP ({ag p0.ae aa.toNat with dB:=nW}).dB.toNat)) (λHw=>nC (cn ({p0 with ae:=((p0.ae.set aa.toNat ({ag p0.ae aa.toNat with dB:=nW})).set aa.toNat ({{ag p0.ae aa.toNat with dB:=nW}with aX:=Hw})).set aa.toNat ({{{ag p0.ae aa.toNat with dB:=nW}with aX:=Hw}with aH:=10})}) bK aa (Dg p1)) (λZp S42 S43=>some (Zp,S42,S43,Dg p1)))else none))))))
theorem mC{K:Nat}{p0 q0:ai}{bK fP:ah}{aa:Int}{p1 q1:aF}{B0 bU er eN eW eD bP bD B1:Nat}{eu dU eO ei cT ax:Option Addr}{r0:aD}(H:fc K p0 bK aa p1=some (r0,q0,fP,q1))(h:Fit z (an (fb B0 p0 (.iface 33 (pA bU 0)) eO eW ei eD cT bP ax bD::gD eO eW p0.code::ew ei eD p0.aP::eA cT bP p0.ak::ey B0 ax bD p0.ae::dx bU bK eu er dU eN::iC eu er bK.cell::bY dU eN bK.log::qU B1 p1::L)) w)(fW:bT aa p0.ae.length) :
 Calls Tryz.prog 94 #[pA (bg ax) (aa.toNat*188),.iface 42 (pA B1 0)] w λe w=>∃cF cG cH cI,e=.returned (dY r0)∧Fit z (an (fb B0 q0 (.iface 33 (pA bU 0)) eO eW ei eD cT bP ax bD::gD eO eW q0.code::ew ei eD q0.aP::eA cT bP q0.ak::ey B0 ax bD q0.ae::dx bU fP cF cG cH cI::iC cF cG fP.cell::bY cH cI fP.log::qU B1 q1::L)) w:=by
 unfold fc at H;refine ke Tryz.func94 67 rfl λj=>ks<|kN h (#[vI 0,vI 0,vI 0,vI 0,vI 0,vI 0]) 47 λgQ w h=>kn<|wq<|ks<|ko [U,U,U]<|λ_ r=>tK (wn rfl) r (.agg #[pA B0 0,vI (au p0 aa).bj]) (cs:=[pA B0 0,vI (au p0 aa).bj]) ((h.pick 5).aQ (sz:=188) (i:=aa.toNat) (af B0) (f:=0) (bf fW) (xs:=[pA B0 0,vI (au p0 aa).bj]) (by kernel_rfl))<|?_;refine fO H λgV Gh H=>qh h.m8.m8.m8.m8.m8.m8.m8.m8 λh=>eU (oz (H:=Gh) (h:=h) :) λw h=>ko [vB (gV==1)]<|kn<|dR H (λtQ H=>?_) λtQ H=>?_
 ·refine ks<|fO H λnn ye H=>ko [U]<|eU (sM (fW:=fW) (H:=ye) (h:=h) :) λw h=>kn<|ks<|qg H λsy H=>ql H λyf xI S22 wT H=>ko [U,U]<|qh h.m9.m8.m8.m8.m8.m8.m8.m8.m8 λh=>jz (j6 (fW:=sy) (H:=wT) (h:=h) :) λvM xn zT JH w h=>qh h.m9 λh=>kA h (fe gQ yf) λw h=>kn<|wr<|tr<|kC h<|?_;cases H;exact⟨vM,xn,zT,JH,rfl,h.se 10 [1,2,3,4,5,6,7,8,9]⟩
 refine wk<|tn<|wq<|fO H λyM N3 H=>fO H λvj N2 H=>λ_ r=>fy [(bg ax,aa.toNat*188,[pA B0 0,vI (au p0 aa).bj])] [1,3,4] 10 h (λh=>⟨((h.pick 4).aQ (sz:=188) (i:=aa.toNat) (af B0) (f:=0) (bf fW) (xs:=[pA B0 0,vI (au p0 aa).bj]) (by kernel_rfl)),gE⟩) λw h hd =>qq r<|gg hd 6 [(0,17,.iface 42 (pA B1 0)),(2,19,pA (bg ax) (aa.toNat*188)),(3,20,pA (bg ax) (aa.toNat*188)),(4,21,pA (bg ax) (aa.toNat*188))]<|tL hd 0 5 5 rfl rfl<|λ_ r=>eZ 1 rfl<|qh h.m9 λh=>qq r<|eU (B4 (h:=h) :) λw h=>kn<|λ_ r=>eE ⟨((h.pick 5).aQ (sz:=188) (i:=aa.toNat) (af B0) (f:=0) (bf fW) (xs:=[pA B0 0,vI (au p0 aa).bj]) (by kernel_rfl)),gE⟩ λhd =>qq r<|λ_ r=>eZ 6 rfl<|qh h.m8.m8.m8.m8.m8.m8.m8.m8 λh=>qq r<|eU (oz (H:=N3) (h:=h) :) λw h=>kn<|λ_ r=>xE<|gU 2 7 rfl (wn rfl) r (vI (wi (yM-1)))<|?_;refine λ_ r=>eZ 8 rfl<|qq r<|eU (Cu (H:=N2) (h:=h) :) λw h=>kn<|λ_ r=>xE<|gU 0 9 rfl (wn rfl) r (vI vj)<|?_;refine λ_ r=>ji<|qq r<|tn<|wq<|fO H λr32 MV H=>fO H λnW Eu H=>λ_ r=>fy [(bg ax,aa.toNat*188+1,[vI (au p0 aa).bj]),(bg ax,aa.toNat*188,[pA B0 0,vI (au p0 aa).bj])] [2,3,4,6,8,10,11,13] 18 h (λh=>⟨((h.pick 4).aQ (sz:=188) (i:=aa.toNat) (af B0) (f:=1) (bf fW) (xs:=[vI (au p0 aa).bj]) (by kernel_rfl)),((h.pick 4).aQ (sz:=188) (i:=aa.toNat) (af B0) (f:=0) (bf fW) (xs:=[pA B0 0,vI (au p0 aa).bj]) (by kernel_rfl)),gE⟩) λw h hd =>qq r<|gg hd 9 [(0,26,pA (bg ax) (aa.toNat*188)),(1,27,pA (bg ax) (aa.toNat*188)),(2,28,pA (bg ax) (aa.toNat*188)),(3,29,pA (bg ax) (aa.toNat*188)),(4,30,pA (bg ax) (aa.toNat*188+1)),(7,33,vI vj),(9,35,pA (bg ax) (aa.toNat*188)),(10,36,pA (bg ax) (aa.toNat*188)),(11,37,pA (bg ax) (aa.toNat*188))]<|kx hd 0 8 5 rfl rfl<|gg hd 6 [(6,32,vI (wi ((au p0 aa).bj+1))),(8,34,vI (wi ((wi ((au p0 aa).bj+1))+vj)))]<|tL hd 1 5 12 rfl rfl<|λ_ r=>eZ 13 rfl<|qq r<|eU (oz (H:=MV) (h:=h) :) λw h=>kn<|λ_ r=>eE ⟨((h.pick 4).aQ (sz:=188) (i:=aa.toNat) (af B0) (f:=1) (bf fW) (xs:=[vI (au p0 aa).bj]) (by kernel_rfl)),((h.pick 4).aQ (sz:=188) (i:=aa.toNat) (af B0) (f:=0) (bf fW) (xs:=[pA B0 0,vI (au p0 aa).bj]) (by kernel_rfl)),gE⟩ λhd =>qq r<|λ_ r=>eZ 14 rfl<|qq r<|eU (Cu (H:=Eu) (h:=h) :) λw h=>kn<|λ_ r=>xE<|gU 2 15 rfl (wn rfl) r (pA (bg ax) (aa.toNat*188))<|?_;refine λ_ r=>gU 1 16 rfl (wn rfl) r (pA (bg ax) (aa.toNat*188+8))<|?_;refine λ_ r=>eZ 17 rfl<|qh h.m4 λh=>bx (wn rfl) rfl r rfl (by kernel_rfl) (by kernel_rfl) (v:=vI nW) rfl rfl (by kernel_rfl) (af B0) h (i:=aa.toNat) (f:=8) (p:=(au p0 aa)) (q:=({au p0 aa with dB:=nW})) (bf fW) (by decide) (by kernel_rfl) λw h=>qq r<|kn<|λ_ r=>xE<|ji<|qq r<|tn<|wq<|?_;have Zq:p0.ae.length=(ic p0 aa ({au p0 aa with dB:=nW})).length:=h.eY;replace h:=Fit.jZ Zq (λq_=>rowOf 131 188 (aV B0) (.slice ax q_ bD) (ic p0 aa ({au p0 aa with dB:=nW}))) (λq_=>pts B0 (.cells #[.iface 33 (pA bU 0),.slice eO p0.code.length eW,vI p0.result,vI p0.aR,vI p0.aJ,vI p0.bC,vI p0.aK,.slice ei p0.aP.length eD,.slice cT p0.ak.length bP,.slice ax q_ bD,vI p0.value,vB p0.left] 110)) h
 refine qg H λMJ H=>fO H λHw Pm H=>λ_ r=>fy [(bg ax,aa.toNat*188,[pA B0 0]),(B0,7,[.slice ei p0.aP.length eD]),(bg ax,aa.toNat*188+8,[vI ({au p0 aa with dB:=nW}).dB]),(bg ei,({au p0 aa with dB:=nW}).dB.toNat*2,jJ (ag p0.aP ({au p0 aa with dB:=nW}).dB.toNat))] [2,3,4,6,7,10,11,13] 19 h (λh=>⟨(h.aQ (sz:=188) (i:=aa.toNat) (af B0) (f:=0) (cU (ef fW)) (xs:=[pA B0 0]) (by kernel_rfl)),⟨(h.pick 1).cell 7 rfl,gE⟩,(h.aQ (sz:=188) (i:=aa.toNat) (af B0) (f:=8) (cU (ef fW)) (xs:=[vI ({au p0 aa with dB:=nW}).dB]) (by kernel_rfl)),⟨(h.pick 3).cL fa (f:=0) (bf MJ) rfl,(h.pick 3).cL fa (f:=1) (bf MJ) rfl,gE⟩,gE⟩) λw h hd =>qq r<|gg hd 11 [(0,43,pA (bg ax) (aa.toNat*188)),(1,44,pA (bg ax) (aa.toNat*188)),(2,45,pA (bg ax) (aa.toNat*188)),(3,46,pA (bg ax) (aa.toNat*188)),(4,47,pA (bg ax) (aa.toNat*188)),(9,52,pA (bg ax) (aa.toNat*188)),(10,53,pA (bg ax) (aa.toNat*188)),(11,54,pA (bg ax) (aa.toNat*188+8))]<|kx hd 0 10 5 rfl rfl<|gg hd 8 [(6,49,pA B0 0),(7,50,pA B0 7)]<|kx hd 1 7 8 rfl rfl<|kx hd 2 6 12 rfl rfl<|λ_ r=>mJ hd 5 13 rfl (wn rfl) r (pA (bg ei) (({au p0 aa with dB:=nW}).dB.toNat*2)) (hrun:=λw=>kW (k:=.i64) (E:=118) rfl (by kernel_rfl) (by kernel_rfl) (by kernel_rfl) (by kernel_rfl) (h.pick 3) MJ)<|?_;refine tL hd 3 4 14 rfl rfl<|λ_ r=>eZ 15 rfl<|qq r<|eU (Cv (H:=Pm) (h:=h) :) λw h=>kn<|λ_ r=>xE<|gU 2 16 rfl (wn rfl) r (pA (bg ax) (aa.toNat*188))<|?_;refine λ_ r=>gU 1 17 rfl (wn rfl) r (pA (bg ax) (aa.toNat*188+9))<|?_;refine λ_ r=>eZ 18 rfl<|fL (vs:=iq Hw) (f:=9) (i:=aa.toNat) (wn rfl) rfl r rfl (by kernel_rfl) (by kernel_rfl) rfl (by kernel_rfl) (af B0) h (p:={au p0 aa with dB:=nW}) (q:=({{au p0 aa with dB:=nW}with aX:=Hw})) (cU (ef fW)) (Nat.le_of_ble_eq_true (by kernel_rfl)) (by kernel_rfl) λw h=>qq r<|kn<|λ_ r=>xE<|ji<|qq r<|tn<|ks<|ko [U,U,U]<|λ_ r=>bx (wn rfl) rfl r rfl (by kernel_rfl) (by kernel_rfl) (v:=vI 10) rfl rfl (by kernel_rfl) (af B0) h (i:=aa.toNat) (f:=2) (p:={{au p0 aa with dB:=nW}with aX:=Hw}) (q:=({{{au p0 aa with dB:=nW}with aX:=Hw}with aH:=10})) (cU ((ef (by simpa [bT]using fW)))) (by decide) (by kernel_rfl) λw h=>qq r<|kn<|ks<|ko [U,U]<|?_;have HQ:(ic p0 aa ({au p0 aa with dB:=nW})).length=(((ic p0 aa ({au p0 aa with dB:=nW})).set aa.toNat ({{au p0 aa with dB:=nW}with aX:=Hw})).set aa.toNat ({{{au p0 aa with dB:=nW}with aX:=Hw}with aH:=10})).length:=h.eY;replace h:=Fit.jZ HQ (λq_=>rowOf 131 188 (aV B0) (.slice ax q_ bD) (((ic p0 aa ({au p0 aa with dB:=nW})).set aa.toNat ({{au p0 aa with dB:=nW}with aX:=Hw})).set aa.toNat ({{{au p0 aa with dB:=nW}with aX:=Hw}with aH:=10}))) (λq_=>pts B0 (.cells #[.iface 33 (pA bU 0),.slice eO p0.code.length eW,vI p0.result,vI p0.aR,vI p0.aJ,vI p0.bC,vI p0.aK,.slice ei p0.aP.length eD,.slice cT p0.ak.length bP,.slice ax q_ bD,vI p0.value,vB p0.left] 110)) h
 refine ql H λZp S42 S43 Yh H=>qh h.m8.m8.m8.m8.m4.m8.m8.m8.m8 λh=>jz (jS (fW:=(by simpa [bT]using fW)) (H:=Yh) (h:=h) :) λOU UP Y6 Y7 w h=>qh h.m9 λh=>kA h (fe gQ Zp) λw h=>kn<|wr<|kC h<|?_;cases H;exact⟨OU,UP,Y6,Y7,rfl,h.se 10 [1,2,3,4,5,6,7,8,9]⟩
def eI(K:Nat)(p0:ai)(bK:ah)(aa:Int)(p1:aF):Option (aD×ai×ah):=
 C2 (iA p0 bK aa) (λgV lI bI nn=>(if gV=17 then if bT aa bI.ae.length then pL (jq bI nn aa) (λuZ Gp=>some (uZ,Gp,nn))else none else(if gV=16 then if bT aa bI.ae.length then(if(ag bI.ae aa.toNat).tries<3 then some ((⟨0,0,0,0,0,0⟩:aD),{bI with ae:=bI.ae.set aa.toNat ({ag bI.ae aa.toNat with aH:=9})},nn)else eL (mc K bI nn aa) (λHr=>some ((⟨0,0,0,0,0,0⟩:aD),Hr,nn)))else none else if bT aa bI.ae.length then pL (de bI nn aa) (λyJ qb=>some (yJ,qb,nn))else none)))
theorem mD{K:Nat}{p0 q0:ai}{bK fP:ah}{aa:Int}{p1:aF}{B0 bU er eN eW eD bP bD B1:Nat}{eu dU eO ei cT ax:Option Addr}{r0:aD}(H:eI K p0 bK aa p1=some (r0,q0,fP))(h:Fit z (an (fb B0 p0 (.iface 33 (pA bU 0)) eO eW ei eD cT bP ax bD::gD eO eW p0.code::ew ei eD p0.aP::eA cT bP p0.ak::ey B0 ax bD p0.ae::dx bU bK eu er dU eN::iC eu er bK.cell::bY dU eN bK.log::qU B1 p1::L)) w)(fW:bT aa p0.ae.length) :
 Calls Tryz.prog 96 #[pA (bg ax) (aa.toNat*188),.iface 42 (pA B1 0)] w λe w=>∃cF cG cH cI,e=.returned (dY r0)∧Fit z (an (fb B0 q0 (.iface 33 (pA bU 0)) eO eW ei eD cT bP ax bD::gD eO eW q0.code::ew ei eD q0.aP::eA cT bP q0.ak::ey B0 ax bD q0.ae::dx bU fP cF cG cH cI::iC cF cG fP.cell::bY cH cI fP.log::qU B1 p1::L)) w:=by
 unfold eI at H;refine ke Tryz.func96 32 rfl λj=>ks<|kN h (#[vI 0,vI 0,vI 0,vI 0,vI 0,vI 0]) 47 λgQ w h=>kn<|wq<|ks<|HG H λgV lI bI nn ye H=>ko [U]<|qh h.m8.m8.m8.m8.m8.m8.m8.m8 λh=>jz (nG (fW:=fW) (H:=ye) (h:=h) :) λrJ rm oQ ow w h=>ko [.tuple #[vI gV,vI lI],U,U,U,U]<|kn<|ks<|ko [U]<|kn<|wb<|ks<|ko [vB (gV==17),vB (gV==17)]<|kn<|dR H (λvY H=>?_) λvY H=>?_
 ·refine ks<|qg H λwS H=>ta H λuZ Gp Kx H=>ko [U]<|eU (oI (fW:=wS) (H:=Kx) (h:=h) :) λw h=>qh h.m8 λh=>kA h (fe gQ uZ) λw h=>kn<|wr<|br<|tr<|kC h<|?_;cases H;exact⟨rJ,rm,oQ,ow,rfl,h.se 10 [1,2,3,4,5,6,7,8,9]⟩
 refine ks<|ko [vB (gV==16),vB (gV==16)]<|kn<|dR H (λzh H=>?_) λzh H=>?_
 ·refine wq<|ks<|qg H λyK H=>ko [U,U,U]<|λ_ r=>ld (wn rfl) r (vI (au bI aa).tries) ((h.pick 4).cL (sz:=188) (i:=aa.toNat) (af B0) (f:=7) (bf yK) (by kernel_rfl))<|?_;refine ko [vB (decide ((au bI aa).tries<3))]<|kn<|dR H (λrS H=>?_) λrS H=>?_
  ·refine wl<|ko [U,U,U]<|qh h.m4 λh=>λ_ r=>bx (wn rfl) rfl r rfl (by kernel_rfl) (by kernel_rfl) (v:=vI 9) rfl rfl (by kernel_rfl) (af B0) h (i:=aa.toNat) (f:=2) (p:=(au bI aa)) (q:=({au bI aa with aH:=9})) (bf yK) (by decide) (by kernel_rfl) λw h=>qq r<|kn<|ks<|ko [U]<|qh h.m8 λh=>kA h (pts gQ (.cells #[vI 0,vI 0,vI 0,vI 0,vI 0,vI 0] 47)) λw h=>kn<|wr<|br<|tr<|kC h<|qh h.m2.m2 λh=>?_;have RU:bI.ae.length=(ic bI aa ({au bI aa with aH:=9})).length:=h.eY;replace h:=Fit.jZ RU (λq_=>rowOf 131 188 (aV B0) (.slice ax q_ bD) (ic bI aa ({au bI aa with aH:=9}))) (λq_=>pts B0 (.cells #[.iface 33 (pA bU 0),.slice eO bI.code.length eW,vI bI.result,vI bI.aR,vI bI.aJ,vI bI.bC,vI bI.aK,.slice ei bI.aP.length eD,.slice cT bI.ak.length bP,.slice ax q_ bD,vI bI.value,vB bI.left] 110)) h;cases H;exact⟨rJ,rm,oQ,ow,rfl,h.se 10 [1,3,4,5,0,6,7,8,9]⟩
  refine wl<|fO H λHr MV H=>ko [U]<|eU (sM (fW:=yK) (H:=MV) (h:=h) :) λw h=>kn<|ks<|ko [U]<|qh h.m8 λh=>kA h (pts gQ (.cells #[vI 0,vI 0,vI 0,vI 0,vI 0,vI 0] 47)) λw h=>kn<|wr<|br<|tr<|kC h<|?_;cases H;exact⟨rJ,rm,oQ,ow,rfl,h.se 10 [1,2,3,4,5,6,7,8,9]⟩
 refine wk<|bn<|tn<|ks<|qg H λzb H=>ta H λyJ qb Ku H=>ko [U]<|eU (dh (fW:=zb) (H:=Ku) (h:=h) :) λw h=>qh h.m8 λh=>kA h (fe gQ yJ) λw h=>kn<|wr<|kC h<|?_;cases H;exact⟨rJ,rm,oQ,ow,rfl,h.se 10 [1,2,3,4,5,6,7,8,9]⟩
def aY(K:Nat)(p0:ai)(bK:ah)(p1:Int)(p2:aF):Option (aD×Int×ai×ah×aF):=
 vg (some (.inl ())) (vg ((if p1<0 then some (.inr ((⟨0,0,0,0,0,0⟩:aD),3,p0,bK,p2))else(if p1≥((p0.ae.length:Nat):Int)then some (.inr ((⟨0,0,0,0,0,0⟩:aD),3,p0,bK,p2))else some (.inl ())))) (if bT p1 p0.ae.length then if bT (ag p0.ae p1.toNat).aH LJ.length then(if(ag LJ (ag p0.ae p1.toNat).aH.toNat)=true then some ((⟨0,0,0,0,0,0⟩:aD),0,p0,bK,p2)else Hz (gM) ((if(ag p0.ae p1.toNat).aH=0 then nC (iy p0 bK p1 p2) (λuZ Gp Hl=>(if uZ.aa6=0 then some (uZ,0,Gp,Hl,p2)else some ({uZ with qO:=p1},0,Gp,Hl,p2)))else(if(ag p0.ae p1.toNat).aH=1 then nC (jd p0 bK p1 p2) (λqt Fs KW=>(if qt.aa6=0 then some (qt,0,Fs,KW,p2)else some ({qt with qO:=p1},0,Fs,KW,p2)))else(if(ag p0.ae p1.toNat).aH=2 then nC (iQ p0 bK p1 p2) (λDx M2 yx=>(if Dx.aa6=0 then some (Dx,0,M2,yx,p2)else some ({Dx with qO:=p1},0,M2,yx,p2)))else(if(ag p0.ae p1.toNat).aH=3 then nC (bX p0 bK p1 p2) (λJK QJ Tq=>(if JK.aa6=0 then some (JK,0,QJ,Tq,p2)else some ({JK with qO:=p1},0,QJ,Tq,p2)))else(if(ag p0.ae p1.toNat).aH=4 then nC (dJ p0 bK p1 p2) (λER M6 N8=>(if ER.aa6=0 then some (ER,0,M6,N8,p2)else some ({ER with qO:=p1},0,M6,N8,p2)))else(if(ag p0.ae p1.toNat).aH=5 then nC (cJ p0 bK p1 p2) (λJL QK Pg=>(if JL.aa6=0 then some (JL,0,QK,Pg,p2)else some ({JL with qO:=p1},0,QK,Pg,p2)))else(if(ag p0.ae p1.toNat).aH=6 then nC (dO p0 bK p1 p2) (λFw M4 Ts=>(if Fw.aa6=0 then some (Fw,0,M4,Ts,p2)else some ({Fw with qO:=p1},0,M4,Ts,p2)))else(if(ag p0.ae p1.toNat).aH=7 then nC (eH p0 bK p1 p2) (λzw Gx KX=>(if zw.aa6=0 then some (zw,0,Gx,KX,p2)else some ({zw with qO:=p1},0,Gx,KX,p2)))else(if(ag p0.ae p1.toNat).aH=8 then nC (cw p0 bK p1 p2) (λwZ Gy KY=>(if wZ.aa6=0 then some (wZ,0,Gy,KY,p2)else some ({wZ with qO:=p1},0,Gy,KY,p2)))else(if(ag p0.ae p1.toNat).aH=9 then C2 (fc K p0 bK p1 p2) (λvt Bi KZ Pn=>(if vt.aa6=0 then some (vt,0,Bi,KZ,Pn)else some ({vt with qO:=p1},0,Bi,KZ,Pn)))else(if(ag p0.ae p1.toNat).aH=10 then nC (cn p0 bK p1 p2) (λzx Gz K0=>(if zx.aa6=0 then some (zx,0,Gz,K0,p2)else some ({zx with qO:=p1},0,Gz,K0,p2)))else(if(ag p0.ae p1.toNat).aH=11 then nC (eI K p0 bK p1 p2) (λzy GA K1=>(if zy.aa6=0 then some (zy,0,GA,K1,p2)else some ({zy with qO:=p1},0,GA,K1,p2)))else(if(ag p0.ae p1.toNat).aH=12 then nC (bL p0 bK p1 p2) (λzz GB K2=>(if zz.aa6=0 then some (zz,0,GB,K2,p2)else some ({zz with qO:=p1},0,GB,K2,p2)))else(if(ag p0.ae p1.toNat).aH=13 then none else(if(ag p0.ae p1.toNat).aH=14 then none else none)))))))))))))))))else none else none))
end
end Mo
end
section
namespace Mo
open Go Go.RowKit SL GX
set_option maxRecDepth 100000
set_option maxHeartbeats 4000000
noncomputable section
variable {z w:World}{L:List bE}
theorem tG{K:Nat}{p0 q0:ai}{bK fP:ah}{p1 r1:Int}{p2 q2:aF}{B0 bU er eN eW eD bP bD B2:Nat}{eu dU eO ei cT ax:Option Addr}{r0:aD}(H:aY K p0 bK p1 p2=some (r0,r1,q0,fP,q2))(h:Fit z (an (fb B0 p0 (.iface 33 (pA bU 0)) eO eW ei eD cT bP ax bD::gD eO eW p0.code::ew ei eD p0.aP::eA cT bP p0.ak::ey B0 ax bD p0.ae::dx bU bK eu er dU eN::iC eu er bK.cell::bY dU eN bK.log::qU B2 p2::L)) w)(M7:cu L 1 FN (some ⟨0,0,none⟩) LJ) :
 Calls Tryz.prog 21 #[pA B0 0,vI p1,.iface 42 (pA B2 0)] w λe w=>∃cF cG cH cI,e=.returned (.tuple #[dY r0,vI r1])∧Fit z (an (fb B0 q0 (.iface 33 (pA bU 0)) eO eW ei eD cT bP ax bD::gD eO eW q0.code::ew ei eD q0.aP::eA cT bP q0.ak::ey B0 ax bD q0.ae::dx bU fP cF cG cH cI::iC cF cG fP.cell::bY cH cI fP.log::qU B2 q2::L)) w:=by
 unfold aY at H;refine ke Tryz.func21 57 rfl λj=>ks<|kN h (#[vI 0,vI 0,vI 0,vI 0,vI 0,vI 0]) 47 λgQ w h=>ko [U]<|kn<|?_;obtain⟨o15,H,Zr⟩:=AW H;refine λ_ r=>dw (β:=Unit) (λ_ a w=>.inl ()=o15∧∃j,kP 57 (lk [(0,pA B0 0),(1,vI p1),(2,.iface 42 (pA B2 0)),(6,pA gQ 0)] j) a∧Fit z (an (fb B0 p0 (.iface 33 (pA bU 0)) eO eW ei eD cT bP ax bD::dx bU bK eu er dU eN::iC eu er bK.cell::bY dU eN bK.log::gD eO eW p0.code::ew ei eD p0.aP::eA cT bP p0.ak::ey B0 ax bD p0.ae::qU B2 p2::pts gQ (.cells #[vI 0,vI 0,vI 0,vI 0,vI 0,vI 0] 47)::L)) w) ?_ ?_
 ·refine qq r<|ks<|ko [U,U,U]<|cS (rfl:false=false) [13,14] [.iface 42 (pA B2 0),vB false]<|ko [U]<|kn<|λ_ r=>ik r (b:=false) rfl<|qq r<|wk<|tn<|?_;exact λ_ r=>⟨(),gH H,r.fj (h.se 10 [1,6,7,8,2,3,4,5,9,0])⟩
 clear h r;rintro _ a w ⟨rfl,j,r,h⟩;replace H:=AX Zr;obtain⟨N5,H,Dr⟩:=AW H;refine dw (β:=Unit) (λ_ a w=>.inl ()=N5∧∃j,kP 57 (lk [(0,pA B0 0),(1,vI p1),(2,.iface 42 (pA B2 0)),(6,pA gQ 0)] j) a∧Fit z (an (fb B0 p0 (.iface 33 (pA bU 0)) eO eW ei eD cT bP ax bD::dx bU bK eu er dU eN::iC eu er bK.cell::bY dU eN bK.log::gD eO eW p0.code::ew ei eD p0.aP::eA cT bP p0.ak::ey B0 ax bD p0.ae::qU B2 p2::pts gQ (.cells #[vI 0,vI 0,vI 0,vI 0,vI 0,vI 0] 47)::L)) w) ?_ ?_
 ·refine qq r<|ks<|ko [U,vB (decide (p1<0)),vB (decide (p1<0))]<|qI H (λDp H=>?_) λDp H=>?_
  ·refine bZ (dT Dp) [20,21,22,23,24,25,26]<|mH (dT Dp) (vB true)<|kn<|λ_ r=>gb r (b:=true) rfl<|qq r<|ks<|ko [U]<|qh h.m9 λh=>kA h (pts gQ (.cells #[vI 0,vI 0,vI 0,vI 0,vI 0,vI 0] 47)) λw h=>ko [U]<|kn<|wr<|tr<|λ_ r=>dA (cs:=[vI 0,vI 0,vI 0,vI 0,vI 0,vI 0]) (v:=vI 3) rfl r (by kernel_rfl) (by kernel_rfl) (by kernel_rfl) (by kernel_rfl) (h.held 0 rfl)<|?_;replace H:=sQ H Dr;obtain⟨rfl,rfl,rfl,rfl,rfl⟩:=yR H;exact⟨eu,er,dU,eN,rfl,h.se 10 [1,5,6,7,8,2,3,4,9]⟩
  refine cS (dF Dp) [20,21,22,23] [vI p1,pA B0 0,pA B0 0,pA B0 9]<|q9 (dF Dp) h 9<|cS (dF Dp) [25,26] [vI ((p0.ae.length:Nat):Int),vB (decide (p1≥((p0.ae.length:Nat):Int)))]<|mF (dF Dp) (vB (decide (p1≥((p0.ae.length:Nat):Int))))<|kn<|dR H (λsy H=>?_) λsy H=>?_
  ·refine ks<|ko [U]<|qh h.m9 λh=>kA h (pts gQ (.cells #[vI 0,vI 0,vI 0,vI 0,vI 0,vI 0] 47)) λw h=>ko [U]<|kn<|wr<|tr<|λ_ r=>dA (cs:=[vI 0,vI 0,vI 0,vI 0,vI 0,vI 0]) (v:=vI 3) rfl r (by kernel_rfl) (by kernel_rfl) (by kernel_rfl) (by kernel_rfl) (h.held 0 rfl)<|?_;replace H:=sQ H Dr;obtain⟨rfl,rfl,rfl,rfl,rfl⟩:=yR H;exact⟨eu,er,dU,eN,rfl,h.se 10 [1,5,6,7,8,2,3,4,9]⟩
  refine wk<|tn<|?_;exact λ_ r=>⟨(),gH H,r.fj h⟩
 clear h r;rintro _ a w ⟨rfl,j,r,h⟩;replace H:=AX Dr;refine qq r<|ks<|ko [U,U,U]<|kL h 9<|qg H λkE H=>ko [U]<|ki (h.pick 7) kE<|ko [U]<|kn<|wq<|ks<|ko [U,U,U]<|λ_ r=>ld (wn rfl) r (vI (au p0 p1).aH) ((h.pick 7).cL (sz:=188) (i:=p1.toNat) (af B0) (f:=2) (bf kE) (by kernel_rfl))<|?_;refine qg H λoO H=>kp (pA (bg (some ⟨0,0,none⟩)) ((au p0 p1).aH.toNat*1)) (HB (xs:=LJ) (k:=.i64) (E:=4) rfl (by kernel_rfl) (by kernel_rfl) (by kernel_rfl) (by kernel_rfl) rfl oO)<|λ_ r=>ld (wn rfl) r (vB (ag LJ (au p0 p1).aH.toNat)) (M7.BU oO (h.dn 10) 0 rfl)<|?_;refine kn<|De H (λDl H=>?_) λDl H=>?_
 ·refine ks<|ko [U]<|qh h.m9 λh=>kA h (pts gQ (.cells #[vI 0,vI 0,vI 0,vI 0,vI 0,vI 0] 47)) λw h=>ko [U]<|kn<|wr<|tr<|λ_ r=>dA (cs:=[vI 0,vI 0,vI 0,vI 0,vI 0,vI 0]) (v:=vI 0) rfl r (by kernel_rfl) (by kernel_rfl) (by kernel_rfl) (by kernel_rfl) (h.held 0 rfl)<|?_;obtain⟨rfl,rfl,rfl,rfl,rfl⟩:=yR H;exact⟨eu,er,dU,eN,rfl,h.se 10 [1,5,6,7,8,2,3,4,9]⟩
 refine wk<|tn<|wq<|Rh H λwT H=>qI H (λwS H=>?_) λwS H=>?_
 ·refine ql H λuZ Gp Hl Kr H=>λ_ r=>n4 (λa w=>∃yL:Option Addr,∃C8:Nat,∃C9:Option Addr,∃qQ:Nat,∃Ez:Nat,∃j,kP 57 (lk [(1,vI p1),(6,pA gQ 0),(9,pA Ez 0)] j) a∧Fit z (an (pts gQ (.cells #[vI 0,vI 0,vI 0,vI 0,vI 0,vI 0] 47)::fe Ez uZ::fb B0 Gp (.iface 33 (pA bU 0)) eO eW ei eD cT bP ax bD::dx bU Hl yL C8 C9 qQ::iC yL C8 Hl.cell::bY C9 qQ Hl.log::gD eO eW Gp.code::ew ei eD Gp.aP::eA cT bP Gp.ak::ey B0 ax bD Gp.ae::qU B2 p2::L)) w) ?_ ?_
  ·refine fy [(bg ax,p1.toNat*188+2,[vI (au p0 p1).aH])] [0,2,3] 11 h (λh=>⟨((h.pick 7).aQ (sz:=188) (i:=p1.toNat) (af B0) (f:=2) (bf kE) (xs:=[vI (au p0 p1).aH]) (by kernel_rfl)),gE⟩) λw h hd =>qq r<|gg hd 6 [(1,43,pA (bg ax) (p1.toNat*188)),(2,44,pA (bg ax) (p1.toNat*188)),(3,45,pA (bg ax) (p1.toNat*188+2)),(6,48,pA (bg ax) (p1.toNat*188)),(7,49,.iface 42 (pA B2 0))]<|kx hd 0 5 4 rfl rfl<|λ_ r=>kB (fuel:=4) [0,9] (by kernel_rfl) rfl (cx ⟨_,rfl,?_⟩ (cx ⟨_,rfl,?_⟩ (gG)))
   ·refine qq r<|eU (cQ (H:=wT) (h:=h) :) λw h=>kn<|λ_ r=>eE ⟨((h.pick 7).aQ (sz:=188) (i:=p1.toNat) (af B0) (f:=2) (bf kE) (xs:=[vI (au p0 p1).aH]) (by kernel_rfl)),gE⟩ λhd =>qq r<|λ_ r=>mJ hd 3 5 rfl (wn rfl) r (.func (.func 85) #[] #[]) (hrun:=λw=>rQ (kd:=.i64) rfl (by kernel_rfl) wS (by kernel_rfl))<|?_;refine λ_ r=>kB (fuel:=2) [8,9] (by kernel_rfl) rfl (cx ⟨_,rfl,?_⟩ (cx ⟨_,rfl,?_⟩ (gG)))
    ·refine qh h.m8.m4.m4.m4.m8.m8.m8.m8.m8 λh=>qq r<|jz (lO (fW:=kE) (H:=Kr) (h:=h) :) λyL C8 C9 qQ w h=>kn<|λ_ r=>xE<|eZ 9 rfl<|qq r<|kN h (#[vI 0,vI 0,vI 0,vI 0,vI 0,vI 0]) 47 λEz w h=>kn<|λ_ r=>xE<|eZ 10 rfl<|qq r<|kA h (fe Ez uZ) λw h=>kn<|λ_ r=>xE<|ji<|?_;exact⟨yL,C8,C9,qQ,Ez,r.fj (h.se 11 [10,0,1,6,7,8,2,3,4,5,9])⟩
    refine qq r<|kN h (#[vI 0,vI 0,vI 0,vI 0,vI 0,vI 0]) 47 λEz w h=>kn<|λ_ r=>xE<|eZ 8 rfl<|qh h.m9.m5.m5.m5.m9.m9.m9.m9.m9 λh=>qq r<|jz (lO (fW:=kE) (H:=Kr) (h:=h) :) λyL C8 C9 qQ w h=>kn<|λ_ r=>xE<|eZ 10 rfl<|qh h.m9 λh=>qq r<|kA h (fe Ez uZ) λw h=>kn<|λ_ r=>xE<|ji<|?_;exact⟨yL,C8,C9,qQ,Ez,r.fj (h.se 11 [10,0,1,6,7,8,2,3,4,5,9])⟩
   refine qq r<|kN h (#[vI 0,vI 0,vI 0,vI 0,vI 0,vI 0]) 47 λEz w h=>kn<|λ_ r=>xE<|eZ 0 rfl<|qq r<|eU (cQ (H:=wT) (h:=h) :) λw h=>kn<|λ_ r=>eE ⟨((h.pick 8).aQ (sz:=188) (i:=p1.toNat) (af B0) (f:=2) (bf kE) (xs:=[vI (au p0 p1).aH]) (by kernel_rfl)),gE⟩ λhd =>qq r<|λ_ r=>mJ hd 2 5 rfl (wn rfl) r (.func (.func 85) #[] #[]) (hrun:=λw=>rQ (kd:=.i64) rfl (by kernel_rfl) wS (by kernel_rfl))<|?_;refine λ_ r=>eZ 8 rfl<|qh h.m9.m5.m5.m5.m9.m9.m9.m9.m9 λh=>qq r<|jz (lO (fW:=kE) (H:=Kr) (h:=h) :) λyL C8 C9 qQ w h=>kn<|λ_ r=>xE<|eZ 10 rfl<|qh h.m9 λh=>qq r<|kA h (fe Ez uZ) λw h=>kn<|λ_ r=>xE<|ji<|?_;exact⟨yL,C8,C9,qQ,Ez,r.fj (h.se 11 [10,0,1,6,7,8,2,3,4,5,9])⟩
  clear h r;rintro a w ⟨yL,C8,C9,qQ,Ez,j,r,h⟩;refine qq r<|tn<|wq<|ks<|ko [U]<|kL (h.pick 1) 2<|ko [vB (uZ.aa6 != 0)]<|kn<|oA H (λzb H=>?_) λzb H=>?_
  ·refine wk<|tn<|ks<|kM (h.pick 1)<|kA h (fe gQ uZ) λw h=>ko [U]<|kn<|wr<|λ_ r=>dA (cs:=dc uZ) (v:=vI 0) rfl r (by kernel_rfl) (by kernel_rfl) (by kernel_rfl) (by kernel_rfl) (h.held 0 rfl)<|?_;obtain⟨rfl,rfl,rfl,rfl,rfl⟩:=yR H;exact⟨yL,C8,C9,qQ,rfl,h.se 11 [2,6,7,8,9,3,4,5,10]⟩
  refine wl<|ko [U,U]<|qh h.m1 λh=>kS h 1 (fe Ez {uZ with qO:=p1}) λw h=>kn<|ks<|kM h<|qh h.m1 λh=>kA h (fe gQ {uZ with qO:=p1}) λw h=>ko [U]<|kn<|wr<|λ_ r=>dA (cs:=dc {uZ with qO:=p1}) (v:=vI 0) rfl r (by kernel_rfl) (by kernel_rfl) (by kernel_rfl) (by kernel_rfl) (h.held 0 rfl)<|?_;obtain⟨rfl,rfl,rfl,rfl,rfl⟩:=yR H;exact⟨yL,C8,C9,qQ,rfl,h.se 11 [2,6,7,8,9,3,4,5,10]⟩
 refine qI H (λEy H=>?_) λEy H=>?_
 ·refine ql H λqt Fs KW Pm H=>λ_ r=>n4 (λa w=>∃yg:Option Addr,∃yh:Nat,∃DZ:Option Addr,∃KQ:Nat,∃Jv:Nat,∃j,kP 57 (lk [(1,vI p1),(6,pA gQ 0),(9,pA Jv 0)] j) a∧Fit z (an (pts gQ (.cells #[vI 0,vI 0,vI 0,vI 0,vI 0,vI 0] 47)::fe Jv qt::fb B0 Fs (.iface 33 (pA bU 0)) eO eW ei eD cT bP ax bD::dx bU KW yg yh DZ KQ::iC yg yh KW.cell::bY DZ KQ KW.log::gD eO eW Fs.code::ew ei eD Fs.aP::eA cT bP Fs.ak::ey B0 ax bD Fs.ae::qU B2 p2::L)) w) ?_ ?_
  ·refine fy [(bg ax,p1.toNat*188+2,[vI (au p0 p1).aH])] [0,2,3] 11 h (λh=>⟨((h.pick 7).aQ (sz:=188) (i:=p1.toNat) (af B0) (f:=2) (bf kE) (xs:=[vI (au p0 p1).aH]) (by kernel_rfl)),gE⟩) λw h hd =>qq r<|gg hd 6 [(1,43,pA (bg ax) (p1.toNat*188)),(2,44,pA (bg ax) (p1.toNat*188)),(3,45,pA (bg ax) (p1.toNat*188+2)),(6,48,pA (bg ax) (p1.toNat*188)),(7,49,.iface 42 (pA B2 0))]<|kx hd 0 5 4 rfl rfl<|λ_ r=>kB (fuel:=4) [0,9] (by kernel_rfl) rfl (cx ⟨_,rfl,?_⟩ (cx ⟨_,rfl,?_⟩ (gG)))
   ·refine qq r<|eU (cQ (H:=wT) (h:=h) :) λw h=>kn<|λ_ r=>eE ⟨((h.pick 7).aQ (sz:=188) (i:=p1.toNat) (af B0) (f:=2) (bf kE) (xs:=[vI (au p0 p1).aH]) (by kernel_rfl)),gE⟩ λhd =>qq r<|λ_ r=>mJ hd 3 5 rfl (wn rfl) r (.func (.func 86) #[] #[]) (hrun:=λw=>rQ (kd:=.i64) rfl (by kernel_rfl) Ey (by kernel_rfl))<|?_;refine λ_ r=>kB (fuel:=2) [8,9] (by kernel_rfl) rfl (cx ⟨_,rfl,?_⟩ (cx ⟨_,rfl,?_⟩ (gG)))
    ·refine qh h.m8.m4.m4.m4.m8.m8.m8.m8.m8 λh=>qq r<|jz (mL (fW:=kE) (H:=Pm) (h:=h) :) λyg yh DZ KQ w h=>kn<|λ_ r=>xE<|eZ 9 rfl<|qq r<|kN h (#[vI 0,vI 0,vI 0,vI 0,vI 0,vI 0]) 47 λJv w h=>kn<|λ_ r=>xE<|eZ 10 rfl<|qq r<|kA h (fe Jv qt) λw h=>kn<|λ_ r=>xE<|ji<|?_;exact⟨yg,yh,DZ,KQ,Jv,r.fj (h.se 11 [10,0,1,6,7,8,2,3,4,5,9])⟩
    refine qq r<|kN h (#[vI 0,vI 0,vI 0,vI 0,vI 0,vI 0]) 47 λJv w h=>kn<|λ_ r=>xE<|eZ 8 rfl<|qh h.m9.m5.m5.m5.m9.m9.m9.m9.m9 λh=>qq r<|jz (mL (fW:=kE) (H:=Pm) (h:=h) :) λyg yh DZ KQ w h=>kn<|λ_ r=>xE<|eZ 10 rfl<|qh h.m9 λh=>qq r<|kA h (fe Jv qt) λw h=>kn<|λ_ r=>xE<|ji<|?_;exact⟨yg,yh,DZ,KQ,Jv,r.fj (h.se 11 [10,0,1,6,7,8,2,3,4,5,9])⟩
   refine qq r<|kN h (#[vI 0,vI 0,vI 0,vI 0,vI 0,vI 0]) 47 λJv w h=>kn<|λ_ r=>xE<|eZ 0 rfl<|qq r<|eU (cQ (H:=wT) (h:=h) :) λw h=>kn<|λ_ r=>eE ⟨((h.pick 8).aQ (sz:=188) (i:=p1.toNat) (af B0) (f:=2) (bf kE) (xs:=[vI (au p0 p1).aH]) (by kernel_rfl)),gE⟩ λhd =>qq r<|λ_ r=>mJ hd 2 5 rfl (wn rfl) r (.func (.func 86) #[] #[]) (hrun:=λw=>rQ (kd:=.i64) rfl (by kernel_rfl) Ey (by kernel_rfl))<|?_;refine λ_ r=>eZ 8 rfl<|qh h.m9.m5.m5.m5.m9.m9.m9.m9.m9 λh=>qq r<|jz (mL (fW:=kE) (H:=Pm) (h:=h) :) λyg yh DZ KQ w h=>kn<|λ_ r=>xE<|eZ 10 rfl<|qh h.m9 λh=>qq r<|kA h (fe Jv qt) λw h=>kn<|λ_ r=>xE<|ji<|?_;exact⟨yg,yh,DZ,KQ,Jv,r.fj (h.se 11 [10,0,1,6,7,8,2,3,4,5,9])⟩
  clear h r;rintro a w ⟨yg,yh,DZ,KQ,Jv,j,r,h⟩;refine qq r<|tn<|wq<|ks<|ko [U]<|kL (h.pick 1) 2<|ko [vB (qt.aa6 != 0)]<|kn<|oA H (λPb H=>?_) λPb H=>?_
  ·refine wk<|tn<|ks<|kM (h.pick 1)<|kA h (fe gQ qt) λw h=>ko [U]<|kn<|wr<|λ_ r=>dA (cs:=dc qt) (v:=vI 0) rfl r (by kernel_rfl) (by kernel_rfl) (by kernel_rfl) (by kernel_rfl) (h.held 0 rfl)<|?_;obtain⟨rfl,rfl,rfl,rfl,rfl⟩:=yR H;exact⟨yg,yh,DZ,KQ,rfl,h.se 11 [2,6,7,8,9,3,4,5,10]⟩
  refine wl<|ko [U,U]<|qh h.m1 λh=>kS h 1 (fe Jv {qt with qO:=p1}) λw h=>kn<|ks<|kM h<|qh h.m1 λh=>kA h (fe gQ {qt with qO:=p1}) λw h=>ko [U]<|kn<|wr<|λ_ r=>dA (cs:=dc {qt with qO:=p1}) (v:=vI 0) rfl r (by kernel_rfl) (by kernel_rfl) (by kernel_rfl) (by kernel_rfl) (h.held 0 rfl)<|?_;obtain⟨rfl,rfl,rfl,rfl,rfl⟩:=yR H;exact⟨yg,yh,DZ,KQ,rfl,h.se 11 [2,6,7,8,9,3,4,5,10]⟩
 refine qI H (λPf H=>?_) λPf H=>?_
 ·refine ql H λDx M2 yx Zs H=>λ_ r=>n4 (λa w=>∃M8:Option Addr,∃Ig:Nat,∃Ft:Option Addr,∃Fu:Nat,∃K3:Nat,∃j,kP 57 (lk [(1,vI p1),(6,pA gQ 0),(9,pA K3 0)] j) a∧Fit z (an (pts gQ (.cells #[vI 0,vI 0,vI 0,vI 0,vI 0,vI 0] 47)::fe K3 Dx::fb B0 M2 (.iface 33 (pA bU 0)) eO eW ei eD cT bP ax bD::dx bU yx M8 Ig Ft Fu::iC M8 Ig yx.cell::bY Ft Fu yx.log::gD eO eW M2.code::ew ei eD M2.aP::eA cT bP M2.ak::ey B0 ax bD M2.ae::qU B2 p2::L)) w) ?_ ?_
  ·refine fy [(bg ax,p1.toNat*188+2,[vI (au p0 p1).aH])] [0,2,3] 11 h (λh=>⟨((h.pick 7).aQ (sz:=188) (i:=p1.toNat) (af B0) (f:=2) (bf kE) (xs:=[vI (au p0 p1).aH]) (by kernel_rfl)),gE⟩) λw h hd =>qq r<|gg hd 6 [(1,43,pA (bg ax) (p1.toNat*188)),(2,44,pA (bg ax) (p1.toNat*188)),(3,45,pA (bg ax) (p1.toNat*188+2)),(6,48,pA (bg ax) (p1.toNat*188)),(7,49,.iface 42 (pA B2 0))]<|kx hd 0 5 4 rfl rfl<|λ_ r=>kB (fuel:=4) [0,9] (by kernel_rfl) rfl (cx ⟨_,rfl,?_⟩ (cx ⟨_,rfl,?_⟩ (gG)))
   ·refine qq r<|eU (cQ (H:=wT) (h:=h) :) λw h=>kn<|λ_ r=>eE ⟨((h.pick 7).aQ (sz:=188) (i:=p1.toNat) (af B0) (f:=2) (bf kE) (xs:=[vI (au p0 p1).aH]) (by kernel_rfl)),gE⟩ λhd =>qq r<|λ_ r=>mJ hd 3 5 rfl (wn rfl) r (.func (.func 87) #[] #[]) (hrun:=λw=>rQ (kd:=.i64) rfl (by kernel_rfl) Pf (by kernel_rfl))<|?_;refine λ_ r=>kB (fuel:=2) [8,9] (by kernel_rfl) rfl (cx ⟨_,rfl,?_⟩ (cx ⟨_,rfl,?_⟩ (gG)))
    ·refine qh h.m8.m4.m4.m4.m8.m8.m8.m8.m8 λh=>qq r<|jz (my (fW:=kE) (H:=Zs) (h:=h) :) λM8 Ig Ft Fu w h=>kn<|λ_ r=>xE<|eZ 9 rfl<|qq r<|kN h (#[vI 0,vI 0,vI 0,vI 0,vI 0,vI 0]) 47 λK3 w h=>kn<|λ_ r=>xE<|eZ 10 rfl<|qq r<|kA h (fe K3 Dx) λw h=>kn<|λ_ r=>xE<|ji<|?_;exact⟨M8,Ig,Ft,Fu,K3,r.fj (h.se 11 [10,0,1,6,7,8,2,3,4,5,9])⟩
    refine qq r<|kN h (#[vI 0,vI 0,vI 0,vI 0,vI 0,vI 0]) 47 λK3 w h=>kn<|λ_ r=>xE<|eZ 8 rfl<|qh h.m9.m5.m5.m5.m9.m9.m9.m9.m9 λh=>qq r<|jz (my (fW:=kE) (H:=Zs) (h:=h) :) λM8 Ig Ft Fu w h=>kn<|λ_ r=>xE<|eZ 10 rfl<|qh h.m9 λh=>qq r<|kA h (fe K3 Dx) λw h=>kn<|λ_ r=>xE<|ji<|?_;exact⟨M8,Ig,Ft,Fu,K3,r.fj (h.se 11 [10,0,1,6,7,8,2,3,4,5,9])⟩
   refine qq r<|kN h (#[vI 0,vI 0,vI 0,vI 0,vI 0,vI 0]) 47 λK3 w h=>kn<|λ_ r=>xE<|eZ 0 rfl<|qq r<|eU (cQ (H:=wT) (h:=h) :) λw h=>kn<|λ_ r=>eE ⟨((h.pick 8).aQ (sz:=188) (i:=p1.toNat) (af B0) (f:=2) (bf kE) (xs:=[vI (au p0 p1).aH]) (by kernel_rfl)),gE⟩ λhd =>qq r<|λ_ r=>mJ hd 2 5 rfl (wn rfl) r (.func (.func 87) #[] #[]) (hrun:=λw=>rQ (kd:=.i64) rfl (by kernel_rfl) Pf (by kernel_rfl))<|?_;refine λ_ r=>eZ 8 rfl<|qh h.m9.m5.m5.m5.m9.m9.m9.m9.m9 λh=>qq r<|jz (my (fW:=kE) (H:=Zs) (h:=h) :) λM8 Ig Ft Fu w h=>kn<|λ_ r=>xE<|eZ 10 rfl<|qh h.m9 λh=>qq r<|kA h (fe K3 Dx) λw h=>kn<|λ_ r=>xE<|ji<|?_;exact⟨M8,Ig,Ft,Fu,K3,r.fj (h.se 11 [10,0,1,6,7,8,2,3,4,5,9])⟩
  clear h r;rintro a w ⟨M8,Ig,Ft,Fu,K3,j,r,h⟩;refine qq r<|tn<|wq<|ks<|ko [U]<|kL (h.pick 1) 2<|ko [vB (Dx.aa6 != 0)]<|kn<|oA H (λYC H=>?_) λYC H=>?_
  ·refine wk<|tn<|ks<|kM (h.pick 1)<|kA h (fe gQ Dx) λw h=>ko [U]<|kn<|wr<|λ_ r=>dA (cs:=dc Dx) (v:=vI 0) rfl r (by kernel_rfl) (by kernel_rfl) (by kernel_rfl) (by kernel_rfl) (h.held 0 rfl)<|?_;obtain⟨rfl,rfl,rfl,rfl,rfl⟩:=yR H;exact⟨M8,Ig,Ft,Fu,rfl,h.se 11 [2,6,7,8,9,3,4,5,10]⟩
  refine wl<|ko [U,U]<|qh h.m1 λh=>kS h 1 (fe K3 {Dx with qO:=p1}) λw h=>kn<|ks<|kM h<|qh h.m1 λh=>kA h (fe gQ {Dx with qO:=p1}) λw h=>ko [U]<|kn<|wr<|λ_ r=>dA (cs:=dc {Dx with qO:=p1}) (v:=vI 0) rfl r (by kernel_rfl) (by kernel_rfl) (by kernel_rfl) (by kernel_rfl) (h.held 0 rfl)<|?_;obtain⟨rfl,rfl,rfl,rfl,rfl⟩:=yR H;exact⟨M8,Ig,Ft,Fu,rfl,h.se 11 [2,6,7,8,9,3,4,5,10]⟩
 refine qI H (λOV H=>?_) λOV H=>?_
 ·refine ql H λJK QJ Tq Vj H=>λ_ r=>n4 (λa w=>∃JJ:Option Addr,∃KR:Nat,∃KS:Option Addr,∃Aj:Nat,∃K4:Nat,∃j,kP 57 (lk [(1,vI p1),(6,pA gQ 0),(9,pA K4 0)] j) a∧Fit z (an (pts gQ (.cells #[vI 0,vI 0,vI 0,vI 0,vI 0,vI 0] 47)::fe K4 JK::fb B0 QJ (.iface 33 (pA bU 0)) eO eW ei eD cT bP ax bD::dx bU Tq JJ KR KS Aj::iC JJ KR Tq.cell::bY KS Aj Tq.log::gD eO eW QJ.code::ew ei eD QJ.aP::eA cT bP QJ.ak::ey B0 ax bD QJ.ae::qU B2 p2::L)) w) ?_ ?_
  ·refine fy [(bg ax,p1.toNat*188+2,[vI (au p0 p1).aH])] [0,2,3] 11 h (λh=>⟨((h.pick 7).aQ (sz:=188) (i:=p1.toNat) (af B0) (f:=2) (bf kE) (xs:=[vI (au p0 p1).aH]) (by kernel_rfl)),gE⟩) λw h hd =>qq r<|gg hd 6 [(1,43,pA (bg ax) (p1.toNat*188)),(2,44,pA (bg ax) (p1.toNat*188)),(3,45,pA (bg ax) (p1.toNat*188+2)),(6,48,pA (bg ax) (p1.toNat*188)),(7,49,.iface 42 (pA B2 0))]<|kx hd 0 5 4 rfl rfl<|λ_ r=>kB (fuel:=4) [0,9] (by kernel_rfl) rfl (cx ⟨_,rfl,?_⟩ (cx ⟨_,rfl,?_⟩ (gG)))
   ·refine qq r<|eU (cQ (H:=wT) (h:=h) :) λw h=>kn<|λ_ r=>eE ⟨((h.pick 7).aQ (sz:=188) (i:=p1.toNat) (af B0) (f:=2) (bf kE) (xs:=[vI (au p0 p1).aH]) (by kernel_rfl)),gE⟩ λhd =>qq r<|λ_ r=>mJ hd 3 5 rfl (wn rfl) r (.func (.func 88) #[] #[]) (hrun:=λw=>rQ (kd:=.i64) rfl (by kernel_rfl) OV (by kernel_rfl))<|?_;refine λ_ r=>kB (fuel:=2) [8,9] (by kernel_rfl) rfl (cx ⟨_,rfl,?_⟩ (cx ⟨_,rfl,?_⟩ (gG)))
    ·refine qh h.m8.m4.m4.m4.m8.m8.m8.m8.m8 λh=>qq r<|jz (mz (fW:=kE) (H:=Vj) (h:=h) :) λJJ KR KS Aj w h=>kn<|λ_ r=>xE<|eZ 9 rfl<|qq r<|kN h (#[vI 0,vI 0,vI 0,vI 0,vI 0,vI 0]) 47 λK4 w h=>kn<|λ_ r=>xE<|eZ 10 rfl<|qq r<|kA h (fe K4 JK) λw h=>kn<|λ_ r=>xE<|ji<|?_;exact⟨JJ,KR,KS,Aj,K4,r.fj (h.se 11 [10,0,1,6,7,8,2,3,4,5,9])⟩
    refine qq r<|kN h (#[vI 0,vI 0,vI 0,vI 0,vI 0,vI 0]) 47 λK4 w h=>kn<|λ_ r=>xE<|eZ 8 rfl<|qh h.m9.m5.m5.m5.m9.m9.m9.m9.m9 λh=>qq r<|jz (mz (fW:=kE) (H:=Vj) (h:=h) :) λJJ KR KS Aj w h=>kn<|λ_ r=>xE<|eZ 10 rfl<|qh h.m9 λh=>qq r<|kA h (fe K4 JK) λw h=>kn<|λ_ r=>xE<|ji<|?_;exact⟨JJ,KR,KS,Aj,K4,r.fj (h.se 11 [10,0,1,6,7,8,2,3,4,5,9])⟩
   refine qq r<|kN h (#[vI 0,vI 0,vI 0,vI 0,vI 0,vI 0]) 47 λK4 w h=>kn<|λ_ r=>xE<|eZ 0 rfl<|qq r<|eU (cQ (H:=wT) (h:=h) :) λw h=>kn<|λ_ r=>eE ⟨((h.pick 8).aQ (sz:=188) (i:=p1.toNat) (af B0) (f:=2) (bf kE) (xs:=[vI (au p0 p1).aH]) (by kernel_rfl)),gE⟩ λhd =>qq r<|λ_ r=>mJ hd 2 5 rfl (wn rfl) r (.func (.func 88) #[] #[]) (hrun:=λw=>rQ (kd:=.i64) rfl (by kernel_rfl) OV (by kernel_rfl))<|?_;refine λ_ r=>eZ 8 rfl<|qh h.m9.m5.m5.m5.m9.m9.m9.m9.m9 λh=>qq r<|jz (mz (fW:=kE) (H:=Vj) (h:=h) :) λJJ KR KS Aj w h=>kn<|λ_ r=>xE<|eZ 10 rfl<|qh h.m9 λh=>qq r<|kA h (fe K4 JK) λw h=>kn<|λ_ r=>xE<|ji<|?_;exact⟨JJ,KR,KS,Aj,K4,r.fj (h.se 11 [10,0,1,6,7,8,2,3,4,5,9])⟩
  clear h r;rintro a w ⟨JJ,KR,KS,Aj,K4,j,r,h⟩;refine qq r<|tn<|wq<|ks<|ko [U]<|kL (h.pick 1) 2<|ko [vB (JK.aa6 != 0)]<|kn<|oA H (λVe H=>?_) λVe H=>?_
  ·refine wk<|tn<|ks<|kM (h.pick 1)<|kA h (fe gQ JK) λw h=>ko [U]<|kn<|wr<|λ_ r=>dA (cs:=dc JK) (v:=vI 0) rfl r (by kernel_rfl) (by kernel_rfl) (by kernel_rfl) (by kernel_rfl) (h.held 0 rfl)<|?_;obtain⟨rfl,rfl,rfl,rfl,rfl⟩:=yR H;exact⟨JJ,KR,KS,Aj,rfl,h.se 11 [2,6,7,8,9,3,4,5,10]⟩
  refine wl<|ko [U,U]<|qh h.m1 λh=>kS h 1 (fe K4 {JK with qO:=p1}) λw h=>kn<|ks<|kM h<|qh h.m1 λh=>kA h (fe gQ {JK with qO:=p1}) λw h=>ko [U]<|kn<|wr<|λ_ r=>dA (cs:=dc {JK with qO:=p1}) (v:=vI 0) rfl r (by kernel_rfl) (by kernel_rfl) (by kernel_rfl) (by kernel_rfl) (h.held 0 rfl)<|?_;obtain⟨rfl,rfl,rfl,rfl,rfl⟩:=yR H;exact⟨JJ,KR,KS,Aj,rfl,h.se 11 [2,6,7,8,9,3,4,5,10]⟩
 refine qI H (λZt H=>?_) λZt H=>?_
 ·refine ql H λER M6 N8 O5 H=>λ_ r=>n4 (λa w=>∃KT:Option Addr,∃KU:Nat,∃KV:Option Addr,∃KN:Nat,∃K5:Nat,∃j,kP 57 (lk [(1,vI p1),(6,pA gQ 0),(9,pA K5 0)] j) a∧Fit z (an (pts gQ (.cells #[vI 0,vI 0,vI 0,vI 0,vI 0,vI 0] 47)::fe K5 ER::fb B0 M6 (.iface 33 (pA bU 0)) eO eW ei eD cT bP ax bD::dx bU N8 KT KU KV KN::iC KT KU N8.cell::bY KV KN N8.log::gD eO eW M6.code::ew ei eD M6.aP::eA cT bP M6.ak::ey B0 ax bD M6.ae::qU B2 p2::L)) w) ?_ ?_
  ·refine fy [(bg ax,p1.toNat*188+2,[vI (au p0 p1).aH])] [0,2,3] 11 h (λh=>⟨((h.pick 7).aQ (sz:=188) (i:=p1.toNat) (af B0) (f:=2) (bf kE) (xs:=[vI (au p0 p1).aH]) (by kernel_rfl)),gE⟩) λw h hd =>qq r<|gg hd 6 [(1,43,pA (bg ax) (p1.toNat*188)),(2,44,pA (bg ax) (p1.toNat*188)),(3,45,pA (bg ax) (p1.toNat*188+2)),(6,48,pA (bg ax) (p1.toNat*188)),(7,49,.iface 42 (pA B2 0))]<|kx hd 0 5 4 rfl rfl<|λ_ r=>kB (fuel:=4) [0,9] (by kernel_rfl) rfl (cx ⟨_,rfl,?_⟩ (cx ⟨_,rfl,?_⟩ (gG)))
   ·refine qq r<|eU (cQ (H:=wT) (h:=h) :) λw h=>kn<|λ_ r=>eE ⟨((h.pick 7).aQ (sz:=188) (i:=p1.toNat) (af B0) (f:=2) (bf kE) (xs:=[vI (au p0 p1).aH]) (by kernel_rfl)),gE⟩ λhd =>qq r<|λ_ r=>mJ hd 3 5 rfl (wn rfl) r (.func (.func 89) #[] #[]) (hrun:=λw=>rQ (kd:=.i64) rfl (by kernel_rfl) Zt (by kernel_rfl))<|?_;refine λ_ r=>kB (fuel:=2) [8,9] (by kernel_rfl) rfl (cx ⟨_,rfl,?_⟩ (cx ⟨_,rfl,?_⟩ (gG)))
    ·refine qh h.m8.m4.m4.m4.m8.m8.m8.m8.m8 λh=>qq r<|jz (mA (fW:=kE) (H:=O5) (h:=h) :) λKT KU KV KN w h=>kn<|λ_ r=>xE<|eZ 9 rfl<|qq r<|kN h (#[vI 0,vI 0,vI 0,vI 0,vI 0,vI 0]) 47 λK5 w h=>kn<|λ_ r=>xE<|eZ 10 rfl<|qq r<|kA h (fe K5 ER) λw h=>kn<|λ_ r=>xE<|ji<|?_;exact⟨KT,KU,KV,KN,K5,r.fj (h.se 11 [10,0,1,6,7,8,2,3,4,5,9])⟩
    refine qq r<|kN h (#[vI 0,vI 0,vI 0,vI 0,vI 0,vI 0]) 47 λK5 w h=>kn<|λ_ r=>xE<|eZ 8 rfl<|qh h.m9.m5.m5.m5.m9.m9.m9.m9.m9 λh=>qq r<|jz (mA (fW:=kE) (H:=O5) (h:=h) :) λKT KU KV KN w h=>kn<|λ_ r=>xE<|eZ 10 rfl<|qh h.m9 λh=>qq r<|kA h (fe K5 ER) λw h=>kn<|λ_ r=>xE<|ji<|?_;exact⟨KT,KU,KV,KN,K5,r.fj (h.se 11 [10,0,1,6,7,8,2,3,4,5,9])⟩
   refine qq r<|kN h (#[vI 0,vI 0,vI 0,vI 0,vI 0,vI 0]) 47 λK5 w h=>kn<|λ_ r=>xE<|eZ 0 rfl<|qq r<|eU (cQ (H:=wT) (h:=h) :) λw h=>kn<|λ_ r=>eE ⟨((h.pick 8).aQ (sz:=188) (i:=p1.toNat) (af B0) (f:=2) (bf kE) (xs:=[vI (au p0 p1).aH]) (by kernel_rfl)),gE⟩ λhd =>qq r<|λ_ r=>mJ hd 2 5 rfl (wn rfl) r (.func (.func 89) #[] #[]) (hrun:=λw=>rQ (kd:=.i64) rfl (by kernel_rfl) Zt (by kernel_rfl))<|?_;refine λ_ r=>eZ 8 rfl<|qh h.m9.m5.m5.m5.m9.m9.m9.m9.m9 λh=>qq r<|jz (mA (fW:=kE) (H:=O5) (h:=h) :) λKT KU KV KN w h=>kn<|λ_ r=>xE<|eZ 10 rfl<|qh h.m9 λh=>qq r<|kA h (fe K5 ER) λw h=>kn<|λ_ r=>xE<|ji<|?_;exact⟨KT,KU,KV,KN,K5,r.fj (h.se 11 [10,0,1,6,7,8,2,3,4,5,9])⟩
  clear h r;rintro a w ⟨KT,KU,KV,KN,K5,j,r,h⟩;refine qq r<|tn<|wq<|ks<|ko [U]<|kL (h.pick 1) 2<|ko [vB (ER.aa6 != 0)]<|kn<|oA H (λc78 H=>?_) λc78 H=>?_
  ·refine wk<|tn<|ks<|kM (h.pick 1)<|kA h (fe gQ ER) λw h=>ko [U]<|kn<|wr<|λ_ r=>dA (cs:=dc ER) (v:=vI 0) rfl r (by kernel_rfl) (by kernel_rfl) (by kernel_rfl) (by kernel_rfl) (h.held 0 rfl)<|?_;obtain⟨rfl,rfl,rfl,rfl,rfl⟩:=yR H;exact⟨KT,KU,KV,KN,rfl,h.se 11 [2,6,7,8,9,3,4,5,10]⟩
  refine wl<|ko [U,U]<|qh h.m1 λh=>kS h 1 (fe K5 {ER with qO:=p1}) λw h=>kn<|ks<|kM h<|qh h.m1 λh=>kA h (fe gQ {ER with qO:=p1}) λw h=>ko [U]<|kn<|wr<|λ_ r=>dA (cs:=dc {ER with qO:=p1}) (v:=vI 0) rfl r (by kernel_rfl) (by kernel_rfl) (by kernel_rfl) (by kernel_rfl) (h.held 0 rfl)<|?_;obtain⟨rfl,rfl,rfl,rfl,rfl⟩:=yR H;exact⟨KT,KU,KV,KN,rfl,h.se 11 [2,6,7,8,9,3,4,5,10]⟩
 refine qI H (λVr H=>?_) λVr H=>?_
 ·refine ql H λJL QK Pg Vk H=>λ_ r=>n4 (λa w=>∃KO:Option Addr,∃Hs:Nat,∃Ht:Option Addr,∃Hu:Nat,∃K6:Nat,∃j,kP 57 (lk [(1,vI p1),(6,pA gQ 0),(9,pA K6 0)] j) a∧Fit z (an (pts gQ (.cells #[vI 0,vI 0,vI 0,vI 0,vI 0,vI 0] 47)::fe K6 JL::fb B0 QK (.iface 33 (pA bU 0)) eO eW ei eD cT bP ax bD::dx bU Pg KO Hs Ht Hu::iC KO Hs Pg.cell::bY Ht Hu Pg.log::gD eO eW QK.code::ew ei eD QK.aP::eA cT bP QK.ak::ey B0 ax bD QK.ae::qU B2 p2::L)) w) ?_ ?_
  ·refine fy [(bg ax,p1.toNat*188+2,[vI (au p0 p1).aH])] [0,2,3] 11 h (λh=>⟨((h.pick 7).aQ (sz:=188) (i:=p1.toNat) (af B0) (f:=2) (bf kE) (xs:=[vI (au p0 p1).aH]) (by kernel_rfl)),gE⟩) λw h hd =>qq r<|gg hd 6 [(1,43,pA (bg ax) (p1.toNat*188)),(2,44,pA (bg ax) (p1.toNat*188)),(3,45,pA (bg ax) (p1.toNat*188+2)),(6,48,pA (bg ax) (p1.toNat*188)),(7,49,.iface 42 (pA B2 0))]<|kx hd 0 5 4 rfl rfl<|λ_ r=>kB (fuel:=4) [0,9] (by kernel_rfl) rfl (cx ⟨_,rfl,?_⟩ (cx ⟨_,rfl,?_⟩ (gG)))
   ·refine qq r<|eU (cQ (H:=wT) (h:=h) :) λw h=>kn<|λ_ r=>eE ⟨((h.pick 7).aQ (sz:=188) (i:=p1.toNat) (af B0) (f:=2) (bf kE) (xs:=[vI (au p0 p1).aH]) (by kernel_rfl)),gE⟩ λhd =>qq r<|λ_ r=>mJ hd 3 5 rfl (wn rfl) r (.func (.func 90) #[] #[]) (hrun:=λw=>rQ (kd:=.i64) rfl (by kernel_rfl) Vr (by kernel_rfl))<|?_;refine λ_ r=>kB (fuel:=2) [8,9] (by kernel_rfl) rfl (cx ⟨_,rfl,?_⟩ (cx ⟨_,rfl,?_⟩ (gG)))
    ·refine qh h.m8.m4.m4.m4.m8.m8.m8.m8.m8 λh=>qq r<|jz (j5 (fW:=kE) (H:=Vk) (h:=h) :) λKO Hs Ht Hu w h=>kn<|λ_ r=>xE<|eZ 9 rfl<|qq r<|kN h (#[vI 0,vI 0,vI 0,vI 0,vI 0,vI 0]) 47 λK6 w h=>kn<|λ_ r=>xE<|eZ 10 rfl<|qq r<|kA h (fe K6 JL) λw h=>kn<|λ_ r=>xE<|ji<|?_;exact⟨KO,Hs,Ht,Hu,K6,r.fj (h.se 11 [10,0,1,6,7,8,2,3,4,5,9])⟩
    refine qq r<|kN h (#[vI 0,vI 0,vI 0,vI 0,vI 0,vI 0]) 47 λK6 w h=>kn<|λ_ r=>xE<|eZ 8 rfl<|qh h.m9.m5.m5.m5.m9.m9.m9.m9.m9 λh=>qq r<|jz (j5 (fW:=kE) (H:=Vk) (h:=h) :) λKO Hs Ht Hu w h=>kn<|λ_ r=>xE<|eZ 10 rfl<|qh h.m9 λh=>qq r<|kA h (fe K6 JL) λw h=>kn<|λ_ r=>xE<|ji<|?_;exact⟨KO,Hs,Ht,Hu,K6,r.fj (h.se 11 [10,0,1,6,7,8,2,3,4,5,9])⟩
   refine qq r<|kN h (#[vI 0,vI 0,vI 0,vI 0,vI 0,vI 0]) 47 λK6 w h=>kn<|λ_ r=>xE<|eZ 0 rfl<|qq r<|eU (cQ (H:=wT) (h:=h) :) λw h=>kn<|λ_ r=>eE ⟨((h.pick 8).aQ (sz:=188) (i:=p1.toNat) (af B0) (f:=2) (bf kE) (xs:=[vI (au p0 p1).aH]) (by kernel_rfl)),gE⟩ λhd =>qq r<|λ_ r=>mJ hd 2 5 rfl (wn rfl) r (.func (.func 90) #[] #[]) (hrun:=λw=>rQ (kd:=.i64) rfl (by kernel_rfl) Vr (by kernel_rfl))<|?_;refine λ_ r=>eZ 8 rfl<|qh h.m9.m5.m5.m5.m9.m9.m9.m9.m9 λh=>qq r<|jz (j5 (fW:=kE) (H:=Vk) (h:=h) :) λKO Hs Ht Hu w h=>kn<|λ_ r=>xE<|eZ 10 rfl<|qh h.m9 λh=>qq r<|kA h (fe K6 JL) λw h=>kn<|λ_ r=>xE<|ji<|?_;exact⟨KO,Hs,Ht,Hu,K6,r.fj (h.se 11 [10,0,1,6,7,8,2,3,4,5,9])⟩
  clear h r;rintro a w ⟨KO,Hs,Ht,Hu,K6,j,r,h⟩;refine qq r<|tn<|wq<|ks<|ko [U]<|kL (h.pick 1) 2<|ko [vB (JL.aa6 != 0)]<|kn<|oA H (λZm H=>?_) λZm H=>?_
  ·refine wk<|tn<|ks<|kM (h.pick 1)<|kA h (fe gQ JL) λw h=>ko [U]<|kn<|wr<|λ_ r=>dA (cs:=dc JL) (v:=vI 0) rfl r (by kernel_rfl) (by kernel_rfl) (by kernel_rfl) (by kernel_rfl) (h.held 0 rfl)<|?_;obtain⟨rfl,rfl,rfl,rfl,rfl⟩:=yR H;exact⟨KO,Hs,Ht,Hu,rfl,h.se 11 [2,6,7,8,9,3,4,5,10]⟩
  refine wl<|ko [U,U]<|qh h.m1 λh=>kS h 1 (fe K6 {JL with qO:=p1}) λw h=>kn<|ks<|kM h<|qh h.m1 λh=>kA h (fe gQ {JL with qO:=p1}) λw h=>ko [U]<|kn<|wr<|λ_ r=>dA (cs:=dc {JL with qO:=p1}) (v:=vI 0) rfl r (by kernel_rfl) (by kernel_rfl) (by kernel_rfl) (by kernel_rfl) (h.held 0 rfl)<|?_;obtain⟨rfl,rfl,rfl,rfl,rfl⟩:=yR H;exact⟨KO,Hs,Ht,Hu,rfl,h.se 11 [2,6,7,8,9,3,4,5,10]⟩
 refine qI H (λVs H=>?_) λVs H=>?_
 ·refine ql H λFw M4 Ts Zu H=>λ_ r=>n4 (λa w=>∃Il:Option Addr,∃Im:Nat,∃KP:Option Addr,∃M9:Nat,∃K7:Nat,∃j,kP 57 (lk [(1,vI p1),(6,pA gQ 0),(9,pA K7 0)] j) a∧Fit z (an (pts gQ (.cells #[vI 0,vI 0,vI 0,vI 0,vI 0,vI 0] 47)::fe K7 Fw::fb B0 M4 (.iface 33 (pA bU 0)) eO eW ei eD cT bP ax bD::dx bU Ts Il Im KP M9::iC Il Im Ts.cell::bY KP M9 Ts.log::gD eO eW M4.code::ew ei eD M4.aP::eA cT bP M4.ak::ey B0 ax bD M4.ae::qU B2 p2::L)) w) ?_ ?_
  ·refine fy [(bg ax,p1.toNat*188+2,[vI (au p0 p1).aH])] [0,2,3] 11 h (λh=>⟨((h.pick 7).aQ (sz:=188) (i:=p1.toNat) (af B0) (f:=2) (bf kE) (xs:=[vI (au p0 p1).aH]) (by kernel_rfl)),gE⟩) λw h hd =>qq r<|gg hd 6 [(1,43,pA (bg ax) (p1.toNat*188)),(2,44,pA (bg ax) (p1.toNat*188)),(3,45,pA (bg ax) (p1.toNat*188+2)),(6,48,pA (bg ax) (p1.toNat*188)),(7,49,.iface 42 (pA B2 0))]<|kx hd 0 5 4 rfl rfl<|λ_ r=>kB (fuel:=4) [0,9] (by kernel_rfl) rfl (cx ⟨_,rfl,?_⟩ (cx ⟨_,rfl,?_⟩ (gG)))
   ·refine qq r<|eU (cQ (H:=wT) (h:=h) :) λw h=>kn<|λ_ r=>eE ⟨((h.pick 7).aQ (sz:=188) (i:=p1.toNat) (af B0) (f:=2) (bf kE) (xs:=[vI (au p0 p1).aH]) (by kernel_rfl)),gE⟩ λhd =>qq r<|λ_ r=>mJ hd 3 5 rfl (wn rfl) r (.func (.func 91) #[] #[]) (hrun:=λw=>rQ (kd:=.i64) rfl (by kernel_rfl) Vs (by kernel_rfl))<|?_;refine λ_ r=>kB (fuel:=2) [8,9] (by kernel_rfl) rfl (cx ⟨_,rfl,?_⟩ (cx ⟨_,rfl,?_⟩ (gG)))
    ·refine qh h.m8.m4.m4.m4.m8.m8.m8.m8.m8 λh=>qq r<|jz (lB (fW:=kE) (H:=Zu) (h:=h) :) λIl Im KP M9 w h=>kn<|λ_ r=>xE<|eZ 9 rfl<|qq r<|kN h (#[vI 0,vI 0,vI 0,vI 0,vI 0,vI 0]) 47 λK7 w h=>kn<|λ_ r=>xE<|eZ 10 rfl<|qq r<|kA h (fe K7 Fw) λw h=>kn<|λ_ r=>xE<|ji<|?_;exact⟨Il,Im,KP,M9,K7,r.fj (h.se 11 [10,0,1,6,7,8,2,3,4,5,9])⟩
    refine qq r<|kN h (#[vI 0,vI 0,vI 0,vI 0,vI 0,vI 0]) 47 λK7 w h=>kn<|λ_ r=>xE<|eZ 8 rfl<|qh h.m9.m5.m5.m5.m9.m9.m9.m9.m9 λh=>qq r<|jz (lB (fW:=kE) (H:=Zu) (h:=h) :) λIl Im KP M9 w h=>kn<|λ_ r=>xE<|eZ 10 rfl<|qh h.m9 λh=>qq r<|kA h (fe K7 Fw) λw h=>kn<|λ_ r=>xE<|ji<|?_;exact⟨Il,Im,KP,M9,K7,r.fj (h.se 11 [10,0,1,6,7,8,2,3,4,5,9])⟩
   refine qq r<|kN h (#[vI 0,vI 0,vI 0,vI 0,vI 0,vI 0]) 47 λK7 w h=>kn<|λ_ r=>xE<|eZ 0 rfl<|qq r<|eU (cQ (H:=wT) (h:=h) :) λw h=>kn<|λ_ r=>eE ⟨((h.pick 8).aQ (sz:=188) (i:=p1.toNat) (af B0) (f:=2) (bf kE) (xs:=[vI (au p0 p1).aH]) (by kernel_rfl)),gE⟩ λhd =>qq r<|λ_ r=>mJ hd 2 5 rfl (wn rfl) r (.func (.func 91) #[] #[]) (hrun:=λw=>rQ (kd:=.i64) rfl (by kernel_rfl) Vs (by kernel_rfl))<|?_;refine λ_ r=>eZ 8 rfl<|qh h.m9.m5.m5.m5.m9.m9.m9.m9.m9 λh=>qq r<|jz (lB (fW:=kE) (H:=Zu) (h:=h) :) λIl Im KP M9 w h=>kn<|λ_ r=>xE<|eZ 10 rfl<|qh h.m9 λh=>qq r<|kA h (fe K7 Fw) λw h=>kn<|λ_ r=>xE<|ji<|?_;exact⟨Il,Im,KP,M9,K7,r.fj (h.se 11 [10,0,1,6,7,8,2,3,4,5,9])⟩
  clear h r;rintro a w ⟨Il,Im,KP,M9,K7,j,r,h⟩;refine qq r<|tn<|wq<|ks<|ko [U]<|kL (h.pick 1) 2<|ko [vB (Fw.aa6 != 0)]<|kn<|oA H (λZv H=>?_) λZv H=>?_
  ·refine wk<|tn<|ks<|kM (h.pick 1)<|kA h (fe gQ Fw) λw h=>ko [U]<|kn<|wr<|λ_ r=>dA (cs:=dc Fw) (v:=vI 0) rfl r (by kernel_rfl) (by kernel_rfl) (by kernel_rfl) (by kernel_rfl) (h.held 0 rfl)<|?_;obtain⟨rfl,rfl,rfl,rfl,rfl⟩:=yR H;exact⟨Il,Im,KP,M9,rfl,h.se 11 [2,6,7,8,9,3,4,5,10]⟩
  refine wl<|ko [U,U]<|qh h.m1 λh=>kS h 1 (fe K7 {Fw with qO:=p1}) λw h=>kn<|ks<|kM h<|qh h.m1 λh=>kA h (fe gQ {Fw with qO:=p1}) λw h=>ko [U]<|kn<|wr<|λ_ r=>dA (cs:=dc {Fw with qO:=p1}) (v:=vI 0) rfl r (by kernel_rfl) (by kernel_rfl) (by kernel_rfl) (by kernel_rfl) (h.held 0 rfl)<|?_;obtain⟨rfl,rfl,rfl,rfl,rfl⟩:=yR H;exact⟨Il,Im,KP,M9,rfl,h.se 11 [2,6,7,8,9,3,4,5,10]⟩
 refine qI H (λRY H=>?_) λRY H=>?_
 ·refine ql H λzw Gx KX RZ H=>λ_ r=>n4 (λa w=>∃An:Option Addr,∃Ao:Nat,∃Cw:Option Addr,∃Cx:Nat,∃As:Nat,∃j,kP 57 (lk [(1,vI p1),(6,pA gQ 0),(9,pA As 0)] j) a∧Fit z (an (pts gQ (.cells #[vI 0,vI 0,vI 0,vI 0,vI 0,vI 0] 47)::fe As zw::fb B0 Gx (.iface 33 (pA bU 0)) eO eW ei eD cT bP ax bD::dx bU KX An Ao Cw Cx::iC An Ao KX.cell::bY Cw Cx KX.log::gD eO eW Gx.code::ew ei eD Gx.aP::eA cT bP Gx.ak::ey B0 ax bD Gx.ae::qU B2 p2::L)) w) ?_ ?_
  ·refine fy [(bg ax,p1.toNat*188+2,[vI (au p0 p1).aH])] [0,2,3] 11 h (λh=>⟨((h.pick 7).aQ (sz:=188) (i:=p1.toNat) (af B0) (f:=2) (bf kE) (xs:=[vI (au p0 p1).aH]) (by kernel_rfl)),gE⟩) λw h hd =>qq r<|gg hd 6 [(1,43,pA (bg ax) (p1.toNat*188)),(2,44,pA (bg ax) (p1.toNat*188)),(3,45,pA (bg ax) (p1.toNat*188+2)),(6,48,pA (bg ax) (p1.toNat*188)),(7,49,.iface 42 (pA B2 0))]<|kx hd 0 5 4 rfl rfl<|λ_ r=>kB (fuel:=4) [0,9] (by kernel_rfl) rfl (cx ⟨_,rfl,?_⟩ (cx ⟨_,rfl,?_⟩ (gG)))
   ·refine qq r<|eU (cQ (H:=wT) (h:=h) :) λw h=>kn<|λ_ r=>eE ⟨((h.pick 7).aQ (sz:=188) (i:=p1.toNat) (af B0) (f:=2) (bf kE) (xs:=[vI (au p0 p1).aH]) (by kernel_rfl)),gE⟩ λhd =>qq r<|λ_ r=>mJ hd 3 5 rfl (wn rfl) r (.func (.func 92) #[] #[]) (hrun:=λw=>rQ (kd:=.i64) rfl (by kernel_rfl) RY (by kernel_rfl))<|?_;refine λ_ r=>kB (fuel:=2) [8,9] (by kernel_rfl) rfl (cx ⟨_,rfl,?_⟩ (cx ⟨_,rfl,?_⟩ (gG)))
    ·refine qh h.m8.m4.m4.m4.m8.m8.m8.m8.m8 λh=>qq r<|jz (mB (fW:=kE) (H:=RZ) (h:=h) :) λAn Ao Cw Cx w h=>kn<|λ_ r=>xE<|eZ 9 rfl<|qq r<|kN h (#[vI 0,vI 0,vI 0,vI 0,vI 0,vI 0]) 47 λAs w h=>kn<|λ_ r=>xE<|eZ 10 rfl<|qq r<|kA h (fe As zw) λw h=>kn<|λ_ r=>xE<|ji<|?_;exact⟨An,Ao,Cw,Cx,As,r.fj (h.se 11 [10,0,1,6,7,8,2,3,4,5,9])⟩
    refine qq r<|kN h (#[vI 0,vI 0,vI 0,vI 0,vI 0,vI 0]) 47 λAs w h=>kn<|λ_ r=>xE<|eZ 8 rfl<|qh h.m9.m5.m5.m5.m9.m9.m9.m9.m9 λh=>qq r<|jz (mB (fW:=kE) (H:=RZ) (h:=h) :) λAn Ao Cw Cx w h=>kn<|λ_ r=>xE<|eZ 10 rfl<|qh h.m9 λh=>qq r<|kA h (fe As zw) λw h=>kn<|λ_ r=>xE<|ji<|?_;exact⟨An,Ao,Cw,Cx,As,r.fj (h.se 11 [10,0,1,6,7,8,2,3,4,5,9])⟩
   refine qq r<|kN h (#[vI 0,vI 0,vI 0,vI 0,vI 0,vI 0]) 47 λAs w h=>kn<|λ_ r=>xE<|eZ 0 rfl<|qq r<|eU (cQ (H:=wT) (h:=h) :) λw h=>kn<|λ_ r=>eE ⟨((h.pick 8).aQ (sz:=188) (i:=p1.toNat) (af B0) (f:=2) (bf kE) (xs:=[vI (au p0 p1).aH]) (by kernel_rfl)),gE⟩ λhd =>qq r<|λ_ r=>mJ hd 2 5 rfl (wn rfl) r (.func (.func 92) #[] #[]) (hrun:=λw=>rQ (kd:=.i64) rfl (by kernel_rfl) RY (by kernel_rfl))<|?_;refine λ_ r=>eZ 8 rfl<|qh h.m9.m5.m5.m5.m9.m9.m9.m9.m9 λh=>qq r<|jz (mB (fW:=kE) (H:=RZ) (h:=h) :) λAn Ao Cw Cx w h=>kn<|λ_ r=>xE<|eZ 10 rfl<|qh h.m9 λh=>qq r<|kA h (fe As zw) λw h=>kn<|λ_ r=>xE<|ji<|?_;exact⟨An,Ao,Cw,Cx,As,r.fj (h.se 11 [10,0,1,6,7,8,2,3,4,5,9])⟩
  clear h r;rintro a w ⟨An,Ao,Cw,Cx,As,j,r,h⟩;refine qq r<|tn<|wq<|ks<|ko [U]<|kL (h.pick 1) 2<|ko [vB (zw.aa6 != 0)]<|kn<|oA H (λZw H=>?_) λZw H=>?_
  ·refine wk<|tn<|ks<|kM (h.pick 1)<|kA h (fe gQ zw) λw h=>ko [U]<|kn<|wr<|λ_ r=>dA (cs:=dc zw) (v:=vI 0) rfl r (by kernel_rfl) (by kernel_rfl) (by kernel_rfl) (by kernel_rfl) (h.held 0 rfl)<|?_;obtain⟨rfl,rfl,rfl,rfl,rfl⟩:=yR H;exact⟨An,Ao,Cw,Cx,rfl,h.se 11 [2,6,7,8,9,3,4,5,10]⟩
  refine wl<|ko [U,U]<|qh h.m1 λh=>kS h 1 (fe As {zw with qO:=p1}) λw h=>kn<|ks<|kM h<|qh h.m1 λh=>kA h (fe gQ {zw with qO:=p1}) λw h=>ko [U]<|kn<|wr<|λ_ r=>dA (cs:=dc {zw with qO:=p1}) (v:=vI 0) rfl r (by kernel_rfl) (by kernel_rfl) (by kernel_rfl) (by kernel_rfl) (h.held 0 rfl)<|?_;obtain⟨rfl,rfl,rfl,rfl,rfl⟩:=yR H;exact⟨An,Ao,Cw,Cx,rfl,h.se 11 [2,6,7,8,9,3,4,5,10]⟩
 refine qI H (λM5 H=>?_) λM5 H=>?_
 ·refine ql H λwZ Gy KY R0 H=>λ_ r=>n4 (λa w=>∃Cy:Option Addr,∃Cz:Nat,∃Ap:Option Addr,∃Aq:Nat,∃Au:Nat,∃j,kP 57 (lk [(1,vI p1),(6,pA gQ 0),(9,pA Au 0)] j) a∧Fit z (an (pts gQ (.cells #[vI 0,vI 0,vI 0,vI 0,vI 0,vI 0] 47)::fe Au wZ::fb B0 Gy (.iface 33 (pA bU 0)) eO eW ei eD cT bP ax bD::dx bU KY Cy Cz Ap Aq::iC Cy Cz KY.cell::bY Ap Aq KY.log::gD eO eW Gy.code::ew ei eD Gy.aP::eA cT bP Gy.ak::ey B0 ax bD Gy.ae::qU B2 p2::L)) w) ?_ ?_
  ·refine fy [(bg ax,p1.toNat*188+2,[vI (au p0 p1).aH])] [0,2,3] 11 h (λh=>⟨((h.pick 7).aQ (sz:=188) (i:=p1.toNat) (af B0) (f:=2) (bf kE) (xs:=[vI (au p0 p1).aH]) (by kernel_rfl)),gE⟩) λw h hd =>qq r<|gg hd 6 [(1,43,pA (bg ax) (p1.toNat*188)),(2,44,pA (bg ax) (p1.toNat*188)),(3,45,pA (bg ax) (p1.toNat*188+2)),(6,48,pA (bg ax) (p1.toNat*188)),(7,49,.iface 42 (pA B2 0))]<|kx hd 0 5 4 rfl rfl<|λ_ r=>kB (fuel:=4) [0,9] (by kernel_rfl) rfl (cx ⟨_,rfl,?_⟩ (cx ⟨_,rfl,?_⟩ (gG)))
   ·refine qq r<|eU (cQ (H:=wT) (h:=h) :) λw h=>kn<|λ_ r=>eE ⟨((h.pick 7).aQ (sz:=188) (i:=p1.toNat) (af B0) (f:=2) (bf kE) (xs:=[vI (au p0 p1).aH]) (by kernel_rfl)),gE⟩ λhd =>qq r<|λ_ r=>mJ hd 3 5 rfl (wn rfl) r (.func (.func 93) #[] #[]) (hrun:=λw=>rQ (kd:=.i64) rfl (by kernel_rfl) M5 (by kernel_rfl))<|?_;refine λ_ r=>kB (fuel:=2) [8,9] (by kernel_rfl) rfl (cx ⟨_,rfl,?_⟩ (cx ⟨_,rfl,?_⟩ (gG)))
    ·refine qh h.m8.m4.m4.m4.m8.m8.m8.m8.m8 λh=>qq r<|jz (mM (fW:=kE) (H:=R0) (h:=h) :) λCy Cz Ap Aq w h=>kn<|λ_ r=>xE<|eZ 9 rfl<|qq r<|kN h (#[vI 0,vI 0,vI 0,vI 0,vI 0,vI 0]) 47 λAu w h=>kn<|λ_ r=>xE<|eZ 10 rfl<|qq r<|kA h (fe Au wZ) λw h=>kn<|λ_ r=>xE<|ji<|?_;exact⟨Cy,Cz,Ap,Aq,Au,r.fj (h.se 11 [10,0,1,6,7,8,2,3,4,5,9])⟩
    refine qq r<|kN h (#[vI 0,vI 0,vI 0,vI 0,vI 0,vI 0]) 47 λAu w h=>kn<|λ_ r=>xE<|eZ 8 rfl<|qh h.m9.m5.m5.m5.m9.m9.m9.m9.m9 λh=>qq r<|jz (mM (fW:=kE) (H:=R0) (h:=h) :) λCy Cz Ap Aq w h=>kn<|λ_ r=>xE<|eZ 10 rfl<|qh h.m9 λh=>qq r<|kA h (fe Au wZ) λw h=>kn<|λ_ r=>xE<|ji<|?_;exact⟨Cy,Cz,Ap,Aq,Au,r.fj (h.se 11 [10,0,1,6,7,8,2,3,4,5,9])⟩
   refine qq r<|kN h (#[vI 0,vI 0,vI 0,vI 0,vI 0,vI 0]) 47 λAu w h=>kn<|λ_ r=>xE<|eZ 0 rfl<|qq r<|eU (cQ (H:=wT) (h:=h) :) λw h=>kn<|λ_ r=>eE ⟨((h.pick 8).aQ (sz:=188) (i:=p1.toNat) (af B0) (f:=2) (bf kE) (xs:=[vI (au p0 p1).aH]) (by kernel_rfl)),gE⟩ λhd =>qq r<|λ_ r=>mJ hd 2 5 rfl (wn rfl) r (.func (.func 93) #[] #[]) (hrun:=λw=>rQ (kd:=.i64) rfl (by kernel_rfl) M5 (by kernel_rfl))<|?_;refine λ_ r=>eZ 8 rfl<|qh h.m9.m5.m5.m5.m9.m9.m9.m9.m9 λh=>qq r<|jz (mM (fW:=kE) (H:=R0) (h:=h) :) λCy Cz Ap Aq w h=>kn<|λ_ r=>xE<|eZ 10 rfl<|qh h.m9 λh=>qq r<|kA h (fe Au wZ) λw h=>kn<|λ_ r=>xE<|ji<|?_;exact⟨Cy,Cz,Ap,Aq,Au,r.fj (h.se 11 [10,0,1,6,7,8,2,3,4,5,9])⟩
  clear h r;rintro a w ⟨Cy,Cz,Ap,Aq,Au,j,r,h⟩;refine qq r<|tn<|wq<|ks<|ko [U]<|kL (h.pick 1) 2<|ko [vB (wZ.aa6 != 0)]<|kn<|oA H (λZx H=>?_) λZx H=>?_
  ·refine wk<|tn<|ks<|kM (h.pick 1)<|kA h (fe gQ wZ) λw h=>ko [U]<|kn<|wr<|λ_ r=>dA (cs:=dc wZ) (v:=vI 0) rfl r (by kernel_rfl) (by kernel_rfl) (by kernel_rfl) (by kernel_rfl) (h.held 0 rfl)<|?_;obtain⟨rfl,rfl,rfl,rfl,rfl⟩:=yR H;exact⟨Cy,Cz,Ap,Aq,rfl,h.se 11 [2,6,7,8,9,3,4,5,10]⟩
  refine wl<|ko [U,U]<|qh h.m1 λh=>kS h 1 (fe Au {wZ with qO:=p1}) λw h=>kn<|ks<|kM h<|qh h.m1 λh=>kA h (fe gQ {wZ with qO:=p1}) λw h=>ko [U]<|kn<|wr<|λ_ r=>dA (cs:=dc {wZ with qO:=p1}) (v:=vI 0) rfl r (by kernel_rfl) (by kernel_rfl) (by kernel_rfl) (by kernel_rfl) (h.held 0 rfl)<|?_;obtain⟨rfl,rfl,rfl,rfl,rfl⟩:=yR H;exact⟨Cy,Cz,Ap,Aq,rfl,h.se 11 [2,6,7,8,9,3,4,5,10]⟩
 refine qI H (λR3 H=>?_) λR3 H=>?_
 ·refine HG H λvt Bi KZ Pn R4 H=>λ_ r=>n4 (λa w=>∃zq:Option Addr,∃zu:Nat,∃CA:Option Addr,∃CB:Nat,∃Av:Nat,∃j,kP 57 (lk [(1,vI p1),(6,pA gQ 0),(9,pA Av 0)] j) a∧Fit z (an (pts gQ (.cells #[vI 0,vI 0,vI 0,vI 0,vI 0,vI 0] 47)::fe Av vt::fb B0 Bi (.iface 33 (pA bU 0)) eO eW ei eD cT bP ax bD::dx bU KZ zq zu CA CB::iC zq zu KZ.cell::bY CA CB KZ.log::gD eO eW Bi.code::ew ei eD Bi.aP::eA cT bP Bi.ak::ey B0 ax bD Bi.ae::qU B2 Pn::L)) w) ?_ ?_
  ·refine fy [(bg ax,p1.toNat*188+2,[vI (au p0 p1).aH])] [0,2,3] 11 h (λh=>⟨((h.pick 7).aQ (sz:=188) (i:=p1.toNat) (af B0) (f:=2) (bf kE) (xs:=[vI (au p0 p1).aH]) (by kernel_rfl)),gE⟩) λw h hd =>qq r<|gg hd 6 [(1,43,pA (bg ax) (p1.toNat*188)),(2,44,pA (bg ax) (p1.toNat*188)),(3,45,pA (bg ax) (p1.toNat*188+2)),(6,48,pA (bg ax) (p1.toNat*188)),(7,49,.iface 42 (pA B2 0))]<|kx hd 0 5 4 rfl rfl<|λ_ r=>kB (fuel:=4) [0,9] (by kernel_rfl) rfl (cx ⟨_,rfl,?_⟩ (cx ⟨_,rfl,?_⟩ (gG)))
   ·refine qq r<|eU (cQ (H:=wT) (h:=h) :) λw h=>kn<|λ_ r=>eE ⟨((h.pick 7).aQ (sz:=188) (i:=p1.toNat) (af B0) (f:=2) (bf kE) (xs:=[vI (au p0 p1).aH]) (by kernel_rfl)),gE⟩ λhd =>qq r<|λ_ r=>mJ hd 3 5 rfl (wn rfl) r (.func (.func 94) #[] #[]) (hrun:=λw=>rQ (kd:=.i64) rfl (by kernel_rfl) R3 (by kernel_rfl))<|?_;refine λ_ r=>kB (fuel:=2) [8,9] (by kernel_rfl) rfl (cx ⟨_,rfl,?_⟩ (cx ⟨_,rfl,?_⟩ (gG)))
    ·refine qh h.m8.m4.m4.m4.m8.m8.m8.m8.m8 λh=>qq r<|jz (mC (fW:=kE) (H:=R4) (h:=h) :) λzq zu CA CB w h=>kn<|λ_ r=>xE<|eZ 9 rfl<|qq r<|kN h (#[vI 0,vI 0,vI 0,vI 0,vI 0,vI 0]) 47 λAv w h=>kn<|λ_ r=>xE<|eZ 10 rfl<|qq r<|kA h (fe Av vt) λw h=>kn<|λ_ r=>xE<|ji<|?_;exact⟨zq,zu,CA,CB,Av,r.fj (h.se 11 [10,0,1,6,7,8,2,3,4,5,9])⟩
    refine qq r<|kN h (#[vI 0,vI 0,vI 0,vI 0,vI 0,vI 0]) 47 λAv w h=>kn<|λ_ r=>xE<|eZ 8 rfl<|qh h.m9.m5.m5.m5.m9.m9.m9.m9.m9 λh=>qq r<|jz (mC (fW:=kE) (H:=R4) (h:=h) :) λzq zu CA CB w h=>kn<|λ_ r=>xE<|eZ 10 rfl<|qh h.m9 λh=>qq r<|kA h (fe Av vt) λw h=>kn<|λ_ r=>xE<|ji<|?_;exact⟨zq,zu,CA,CB,Av,r.fj (h.se 11 [10,0,1,6,7,8,2,3,4,5,9])⟩
   refine qq r<|kN h (#[vI 0,vI 0,vI 0,vI 0,vI 0,vI 0]) 47 λAv w h=>kn<|λ_ r=>xE<|eZ 0 rfl<|qq r<|eU (cQ (H:=wT) (h:=h) :) λw h=>kn<|λ_ r=>eE ⟨((h.pick 8).aQ (sz:=188) (i:=p1.toNat) (af B0) (f:=2) (bf kE) (xs:=[vI (au p0 p1).aH]) (by kernel_rfl)),gE⟩ λhd =>qq r<|λ_ r=>mJ hd 2 5 rfl (wn rfl) r (.func (.func 94) #[] #[]) (hrun:=λw=>rQ (kd:=.i64) rfl (by kernel_rfl) R3 (by kernel_rfl))<|?_;refine λ_ r=>eZ 8 rfl<|qh h.m9.m5.m5.m5.m9.m9.m9.m9.m9 λh=>qq r<|jz (mC (fW:=kE) (H:=R4) (h:=h) :) λzq zu CA CB w h=>kn<|λ_ r=>xE<|eZ 10 rfl<|qh h.m9 λh=>qq r<|kA h (fe Av vt) λw h=>kn<|λ_ r=>xE<|ji<|?_;exact⟨zq,zu,CA,CB,Av,r.fj (h.se 11 [10,0,1,6,7,8,2,3,4,5,9])⟩
  clear h r;rintro a w ⟨zq,zu,CA,CB,Av,j,r,h⟩;refine qq r<|tn<|wq<|ks<|ko [U]<|kL (h.pick 1) 2<|ko [vB (vt.aa6 != 0)]<|kn<|oA H (λZy H=>?_) λZy H=>?_
  ·refine wk<|tn<|ks<|kM (h.pick 1)<|kA h (fe gQ vt) λw h=>ko [U]<|kn<|wr<|λ_ r=>dA (cs:=dc vt) (v:=vI 0) rfl r (by kernel_rfl) (by kernel_rfl) (by kernel_rfl) (by kernel_rfl) (h.held 0 rfl)<|?_;obtain⟨rfl,rfl,rfl,rfl,rfl⟩:=yR H;exact⟨zq,zu,CA,CB,rfl,h.se 11 [2,6,7,8,9,3,4,5,10]⟩
  refine wl<|ko [U,U]<|qh h.m1 λh=>kS h 1 (fe Av {vt with qO:=p1}) λw h=>kn<|ks<|kM h<|qh h.m1 λh=>kA h (fe gQ {vt with qO:=p1}) λw h=>ko [U]<|kn<|wr<|λ_ r=>dA (cs:=dc {vt with qO:=p1}) (v:=vI 0) rfl r (by kernel_rfl) (by kernel_rfl) (by kernel_rfl) (by kernel_rfl) (h.held 0 rfl)<|?_;obtain⟨rfl,rfl,rfl,rfl,rfl⟩:=yR H;exact⟨zq,zu,CA,CB,rfl,h.se 11 [2,6,7,8,9,3,4,5,10]⟩
 refine qI H (λR5 H=>?_) λR5 H=>?_
 ·refine ql H λzx Gz K0 R6 H=>λ_ r=>n4 (λa w=>∃CC:Option Addr,∃CD:Nat,∃CE:Option Addr,∃CF:Nat,∃Aw:Nat,∃j,kP 57 (lk [(1,vI p1),(6,pA gQ 0),(9,pA Aw 0)] j) a∧Fit z (an (pts gQ (.cells #[vI 0,vI 0,vI 0,vI 0,vI 0,vI 0] 47)::fe Aw zx::fb B0 Gz (.iface 33 (pA bU 0)) eO eW ei eD cT bP ax bD::dx bU K0 CC CD CE CF::iC CC CD K0.cell::bY CE CF K0.log::gD eO eW Gz.code::ew ei eD Gz.aP::eA cT bP Gz.ak::ey B0 ax bD Gz.ae::qU B2 p2::L)) w) ?_ ?_
  ·refine fy [(bg ax,p1.toNat*188+2,[vI (au p0 p1).aH])] [0,2,3] 11 h (λh=>⟨((h.pick 7).aQ (sz:=188) (i:=p1.toNat) (af B0) (f:=2) (bf kE) (xs:=[vI (au p0 p1).aH]) (by kernel_rfl)),gE⟩) λw h hd =>qq r<|gg hd 6 [(1,43,pA (bg ax) (p1.toNat*188)),(2,44,pA (bg ax) (p1.toNat*188)),(3,45,pA (bg ax) (p1.toNat*188+2)),(6,48,pA (bg ax) (p1.toNat*188)),(7,49,.iface 42 (pA B2 0))]<|kx hd 0 5 4 rfl rfl<|λ_ r=>kB (fuel:=4) [0,9] (by kernel_rfl) rfl (cx ⟨_,rfl,?_⟩ (cx ⟨_,rfl,?_⟩ (gG)))
   ·refine qq r<|eU (cQ (H:=wT) (h:=h) :) λw h=>kn<|λ_ r=>eE ⟨((h.pick 7).aQ (sz:=188) (i:=p1.toNat) (af B0) (f:=2) (bf kE) (xs:=[vI (au p0 p1).aH]) (by kernel_rfl)),gE⟩ λhd =>qq r<|λ_ r=>mJ hd 3 5 rfl (wn rfl) r (.func (.func 95) #[] #[]) (hrun:=λw=>rQ (kd:=.i64) rfl (by kernel_rfl) R5 (by kernel_rfl))<|?_;refine λ_ r=>kB (fuel:=2) [8,9] (by kernel_rfl) rfl (cx ⟨_,rfl,?_⟩ (cx ⟨_,rfl,?_⟩ (gG)))
    ·refine qh h.m8.m4.m4.m4.m8.m8.m8.m8.m8 λh=>qq r<|jz (jS (fW:=kE) (H:=R6) (h:=h) :) λCC CD CE CF w h=>kn<|λ_ r=>xE<|eZ 9 rfl<|qq r<|kN h (#[vI 0,vI 0,vI 0,vI 0,vI 0,vI 0]) 47 λAw w h=>kn<|λ_ r=>xE<|eZ 10 rfl<|qq r<|kA h (fe Aw zx) λw h=>kn<|λ_ r=>xE<|ji<|?_;exact⟨CC,CD,CE,CF,Aw,r.fj (h.se 11 [10,0,1,6,7,8,2,3,4,5,9])⟩
    refine qq r<|kN h (#[vI 0,vI 0,vI 0,vI 0,vI 0,vI 0]) 47 λAw w h=>kn<|λ_ r=>xE<|eZ 8 rfl<|qh h.m9.m5.m5.m5.m9.m9.m9.m9.m9 λh=>qq r<|jz (jS (fW:=kE) (H:=R6) (h:=h) :) λCC CD CE CF w h=>kn<|λ_ r=>xE<|eZ 10 rfl<|qh h.m9 λh=>qq r<|kA h (fe Aw zx) λw h=>kn<|λ_ r=>xE<|ji<|?_;exact⟨CC,CD,CE,CF,Aw,r.fj (h.se 11 [10,0,1,6,7,8,2,3,4,5,9])⟩
   refine qq r<|kN h (#[vI 0,vI 0,vI 0,vI 0,vI 0,vI 0]) 47 λAw w h=>kn<|λ_ r=>xE<|eZ 0 rfl<|qq r<|eU (cQ (H:=wT) (h:=h) :) λw h=>kn<|λ_ r=>eE ⟨((h.pick 8).aQ (sz:=188) (i:=p1.toNat) (af B0) (f:=2) (bf kE) (xs:=[vI (au p0 p1).aH]) (by kernel_rfl)),gE⟩ λhd =>qq r<|λ_ r=>mJ hd 2 5 rfl (wn rfl) r (.func (.func 95) #[] #[]) (hrun:=λw=>rQ (kd:=.i64) rfl (by kernel_rfl) R5 (by kernel_rfl))<|?_;refine λ_ r=>eZ 8 rfl<|qh h.m9.m5.m5.m5.m9.m9.m9.m9.m9 λh=>qq r<|jz (jS (fW:=kE) (H:=R6) (h:=h) :) λCC CD CE CF w h=>kn<|λ_ r=>xE<|eZ 10 rfl<|qh h.m9 λh=>qq r<|kA h (fe Aw zx) λw h=>kn<|λ_ r=>xE<|ji<|?_;exact⟨CC,CD,CE,CF,Aw,r.fj (h.se 11 [10,0,1,6,7,8,2,3,4,5,9])⟩
  clear h r;rintro a w ⟨CC,CD,CE,CF,Aw,j,r,h⟩;refine qq r<|tn<|wq<|ks<|ko [U]<|kL (h.pick 1) 2<|ko [vB (zx.aa6 != 0)]<|kn<|oA H (λZz H=>?_) λZz H=>?_
  ·refine wk<|tn<|ks<|kM (h.pick 1)<|kA h (fe gQ zx) λw h=>ko [U]<|kn<|wr<|λ_ r=>dA (cs:=dc zx) (v:=vI 0) rfl r (by kernel_rfl) (by kernel_rfl) (by kernel_rfl) (by kernel_rfl) (h.held 0 rfl)<|?_;obtain⟨rfl,rfl,rfl,rfl,rfl⟩:=yR H;exact⟨CC,CD,CE,CF,rfl,h.se 11 [2,6,7,8,9,3,4,5,10]⟩
  refine wl<|ko [U,U]<|qh h.m1 λh=>kS h 1 (fe Aw {zx with qO:=p1}) λw h=>kn<|ks<|kM h<|qh h.m1 λh=>kA h (fe gQ {zx with qO:=p1}) λw h=>ko [U]<|kn<|wr<|λ_ r=>dA (cs:=dc {zx with qO:=p1}) (v:=vI 0) rfl r (by kernel_rfl) (by kernel_rfl) (by kernel_rfl) (by kernel_rfl) (h.held 0 rfl)<|?_;obtain⟨rfl,rfl,rfl,rfl,rfl⟩:=yR H;exact⟨CC,CD,CE,CF,rfl,h.se 11 [2,6,7,8,9,3,4,5,10]⟩
 refine qI H (λR7 H=>?_) λR7 H=>?_
 ·refine ql H λzy GA K1 R8 H=>λ_ r=>n4 (λa w=>∃CG:Option Addr,∃CH:Nat,∃CI:Option Addr,∃CJ:Nat,∃Ax:Nat,∃j,kP 57 (lk [(1,vI p1),(6,pA gQ 0),(9,pA Ax 0)] j) a∧Fit z (an (pts gQ (.cells #[vI 0,vI 0,vI 0,vI 0,vI 0,vI 0] 47)::fe Ax zy::fb B0 GA (.iface 33 (pA bU 0)) eO eW ei eD cT bP ax bD::dx bU K1 CG CH CI CJ::iC CG CH K1.cell::bY CI CJ K1.log::gD eO eW GA.code::ew ei eD GA.aP::eA cT bP GA.ak::ey B0 ax bD GA.ae::qU B2 p2::L)) w) ?_ ?_
  ·refine fy [(bg ax,p1.toNat*188+2,[vI (au p0 p1).aH])] [0,2,3] 11 h (λh=>⟨((h.pick 7).aQ (sz:=188) (i:=p1.toNat) (af B0) (f:=2) (bf kE) (xs:=[vI (au p0 p1).aH]) (by kernel_rfl)),gE⟩) λw h hd =>qq r<|gg hd 6 [(1,43,pA (bg ax) (p1.toNat*188)),(2,44,pA (bg ax) (p1.toNat*188)),(3,45,pA (bg ax) (p1.toNat*188+2)),(6,48,pA (bg ax) (p1.toNat*188)),(7,49,.iface 42 (pA B2 0))]<|kx hd 0 5 4 rfl rfl<|λ_ r=>kB (fuel:=4) [0,9] (by kernel_rfl) rfl (cx ⟨_,rfl,?_⟩ (cx ⟨_,rfl,?_⟩ (gG)))
   ·refine qq r<|eU (cQ (H:=wT) (h:=h) :) λw h=>kn<|λ_ r=>eE ⟨((h.pick 7).aQ (sz:=188) (i:=p1.toNat) (af B0) (f:=2) (bf kE) (xs:=[vI (au p0 p1).aH]) (by kernel_rfl)),gE⟩ λhd =>qq r<|λ_ r=>mJ hd 3 5 rfl (wn rfl) r (.func (.func 96) #[] #[]) (hrun:=λw=>rQ (kd:=.i64) rfl (by kernel_rfl) R7 (by kernel_rfl))<|?_;refine λ_ r=>kB (fuel:=2) [8,9] (by kernel_rfl) rfl (cx ⟨_,rfl,?_⟩ (cx ⟨_,rfl,?_⟩ (gG)))
    ·refine qh h.m8.m4.m4.m4.m8.m8.m8.m8.m8 λh=>qq r<|jz (mD (fW:=kE) (H:=R8) (h:=h) :) λCG CH CI CJ w h=>kn<|λ_ r=>xE<|eZ 9 rfl<|qq r<|kN h (#[vI 0,vI 0,vI 0,vI 0,vI 0,vI 0]) 47 λAx w h=>kn<|λ_ r=>xE<|eZ 10 rfl<|qq r<|kA h (fe Ax zy) λw h=>kn<|λ_ r=>xE<|ji<|?_;exact⟨CG,CH,CI,CJ,Ax,r.fj (h.se 11 [10,0,1,6,7,8,2,3,4,5,9])⟩
    refine qq r<|kN h (#[vI 0,vI 0,vI 0,vI 0,vI 0,vI 0]) 47 λAx w h=>kn<|λ_ r=>xE<|eZ 8 rfl<|qh h.m9.m5.m5.m5.m9.m9.m9.m9.m9 λh=>qq r<|jz (mD (fW:=kE) (H:=R8) (h:=h) :) λCG CH CI CJ w h=>kn<|λ_ r=>xE<|eZ 10 rfl<|qh h.m9 λh=>qq r<|kA h (fe Ax zy) λw h=>kn<|λ_ r=>xE<|ji<|?_;exact⟨CG,CH,CI,CJ,Ax,r.fj (h.se 11 [10,0,1,6,7,8,2,3,4,5,9])⟩
   refine qq r<|kN h (#[vI 0,vI 0,vI 0,vI 0,vI 0,vI 0]) 47 λAx w h=>kn<|λ_ r=>xE<|eZ 0 rfl<|qq r<|eU (cQ (H:=wT) (h:=h) :) λw h=>kn<|λ_ r=>eE ⟨((h.pick 8).aQ (sz:=188) (i:=p1.toNat) (af B0) (f:=2) (bf kE) (xs:=[vI (au p0 p1).aH]) (by kernel_rfl)),gE⟩ λhd =>qq r<|λ_ r=>mJ hd 2 5 rfl (wn rfl) r (.func (.func 96) #[] #[]) (hrun:=λw=>rQ (kd:=.i64) rfl (by kernel_rfl) R7 (by kernel_rfl))<|?_;refine λ_ r=>eZ 8 rfl<|qh h.m9.m5.m5.m5.m9.m9.m9.m9.m9 λh=>qq r<|jz (mD (fW:=kE) (H:=R8) (h:=h) :) λCG CH CI CJ w h=>kn<|λ_ r=>xE<|eZ 10 rfl<|qh h.m9 λh=>qq r<|kA h (fe Ax zy) λw h=>kn<|λ_ r=>xE<|ji<|?_;exact⟨CG,CH,CI,CJ,Ax,r.fj (h.se 11 [10,0,1,6,7,8,2,3,4,5,9])⟩
  clear h r;rintro a w ⟨CG,CH,CI,CJ,Ax,j,r,h⟩;refine qq r<|tn<|wq<|ks<|ko [U]<|kL (h.pick 1) 2<|ko [vB (zy.aa6 != 0)]<|kn<|oA H (λZA H=>?_) λZA H=>?_
  ·refine wk<|tn<|ks<|kM (h.pick 1)<|kA h (fe gQ zy) λw h=>ko [U]<|kn<|wr<|λ_ r=>dA (cs:=dc zy) (v:=vI 0) rfl r (by kernel_rfl) (by kernel_rfl) (by kernel_rfl) (by kernel_rfl) (h.held 0 rfl)<|?_;obtain⟨rfl,rfl,rfl,rfl,rfl⟩:=yR H;exact⟨CG,CH,CI,CJ,rfl,h.se 11 [2,6,7,8,9,3,4,5,10]⟩
  refine wl<|ko [U,U]<|qh h.m1 λh=>kS h 1 (fe Ax {zy with qO:=p1}) λw h=>kn<|ks<|kM h<|qh h.m1 λh=>kA h (fe gQ {zy with qO:=p1}) λw h=>ko [U]<|kn<|wr<|λ_ r=>dA (cs:=dc {zy with qO:=p1}) (v:=vI 0) rfl r (by kernel_rfl) (by kernel_rfl) (by kernel_rfl) (by kernel_rfl) (h.held 0 rfl)<|?_;obtain⟨rfl,rfl,rfl,rfl,rfl⟩:=yR H;exact⟨CG,CH,CI,CJ,rfl,h.se 11 [2,6,7,8,9,3,4,5,10]⟩
 refine qI H (λR9 H=>?_) λR9 H=>?_
 ·refine ql H λzz GB K2 Sa H=>λ_ r=>n4 (λa w=>∃CK:Option Addr,∃CM:Nat,∃CN:Option Addr,∃CO:Nat,∃Ay:Nat,∃j,kP 57 (lk [(1,vI p1),(6,pA gQ 0),(9,pA Ay 0)] j) a∧Fit z (an (pts gQ (.cells #[vI 0,vI 0,vI 0,vI 0,vI 0,vI 0] 47)::fe Ay zz::fb B0 GB (.iface 33 (pA bU 0)) eO eW ei eD cT bP ax bD::dx bU K2 CK CM CN CO::iC CK CM K2.cell::bY CN CO K2.log::gD eO eW GB.code::ew ei eD GB.aP::eA cT bP GB.ak::ey B0 ax bD GB.ae::qU B2 p2::L)) w) ?_ ?_
  ·refine fy [(bg ax,p1.toNat*188+2,[vI (au p0 p1).aH])] [0,2,3] 11 h (λh=>⟨((h.pick 7).aQ (sz:=188) (i:=p1.toNat) (af B0) (f:=2) (bf kE) (xs:=[vI (au p0 p1).aH]) (by kernel_rfl)),gE⟩) λw h hd =>qq r<|gg hd 6 [(1,43,pA (bg ax) (p1.toNat*188)),(2,44,pA (bg ax) (p1.toNat*188)),(3,45,pA (bg ax) (p1.toNat*188+2)),(6,48,pA (bg ax) (p1.toNat*188)),(7,49,.iface 42 (pA B2 0))]<|kx hd 0 5 4 rfl rfl<|λ_ r=>kB (fuel:=4) [0,9] (by kernel_rfl) rfl (cx ⟨_,rfl,?_⟩ (cx ⟨_,rfl,?_⟩ (gG)))
   ·refine qq r<|eU (cQ (H:=wT) (h:=h) :) λw h=>kn<|λ_ r=>eE ⟨((h.pick 7).aQ (sz:=188) (i:=p1.toNat) (af B0) (f:=2) (bf kE) (xs:=[vI (au p0 p1).aH]) (by kernel_rfl)),gE⟩ λhd =>qq r<|λ_ r=>mJ hd 3 5 rfl (wn rfl) r (.func (.func 97) #[] #[]) (hrun:=λw=>rQ (kd:=.i64) rfl (by kernel_rfl) R9 (by kernel_rfl))<|?_;refine λ_ r=>kB (fuel:=2) [8,9] (by kernel_rfl) rfl (cx ⟨_,rfl,?_⟩ (cx ⟨_,rfl,?_⟩ (gG)))
    ·refine qh h.m8.m4.m4.m4.m8.m8.m8.m8.m8 λh=>qq r<|jz (j6 (fW:=kE) (H:=Sa) (h:=h) :) λCK CM CN CO w h=>kn<|λ_ r=>xE<|eZ 9 rfl<|qq r<|kN h (#[vI 0,vI 0,vI 0,vI 0,vI 0,vI 0]) 47 λAy w h=>kn<|λ_ r=>xE<|eZ 10 rfl<|qq r<|kA h (fe Ay zz) λw h=>kn<|λ_ r=>xE<|ji<|?_;exact⟨CK,CM,CN,CO,Ay,r.fj (h.se 11 [10,0,1,6,7,8,2,3,4,5,9])⟩
    refine qq r<|kN h (#[vI 0,vI 0,vI 0,vI 0,vI 0,vI 0]) 47 λAy w h=>kn<|λ_ r=>xE<|eZ 8 rfl<|qh h.m9.m5.m5.m5.m9.m9.m9.m9.m9 λh=>qq r<|jz (j6 (fW:=kE) (H:=Sa) (h:=h) :) λCK CM CN CO w h=>kn<|λ_ r=>xE<|eZ 10 rfl<|qh h.m9 λh=>qq r<|kA h (fe Ay zz) λw h=>kn<|λ_ r=>xE<|ji<|?_;exact⟨CK,CM,CN,CO,Ay,r.fj (h.se 11 [10,0,1,6,7,8,2,3,4,5,9])⟩
   refine qq r<|kN h (#[vI 0,vI 0,vI 0,vI 0,vI 0,vI 0]) 47 λAy w h=>kn<|λ_ r=>xE<|eZ 0 rfl<|qq r<|eU (cQ (H:=wT) (h:=h) :) λw h=>kn<|λ_ r=>eE ⟨((h.pick 8).aQ (sz:=188) (i:=p1.toNat) (af B0) (f:=2) (bf kE) (xs:=[vI (au p0 p1).aH]) (by kernel_rfl)),gE⟩ λhd =>qq r<|λ_ r=>mJ hd 2 5 rfl (wn rfl) r (.func (.func 97) #[] #[]) (hrun:=λw=>rQ (kd:=.i64) rfl (by kernel_rfl) R9 (by kernel_rfl))<|?_;refine λ_ r=>eZ 8 rfl<|qh h.m9.m5.m5.m5.m9.m9.m9.m9.m9 λh=>qq r<|jz (j6 (fW:=kE) (H:=Sa) (h:=h) :) λCK CM CN CO w h=>kn<|λ_ r=>xE<|eZ 10 rfl<|qh h.m9 λh=>qq r<|kA h (fe Ay zz) λw h=>kn<|λ_ r=>xE<|ji<|?_;exact⟨CK,CM,CN,CO,Ay,r.fj (h.se 11 [10,0,1,6,7,8,2,3,4,5,9])⟩
  clear h r;rintro a w ⟨CK,CM,CN,CO,Ay,j,r,h⟩;refine qq r<|tn<|wq<|ks<|ko [U]<|kL (h.pick 1) 2<|ko [vB (zz.aa6 != 0)]<|kn<|oA H (λZB H=>?_) λZB H=>?_
  ·refine wk<|tn<|ks<|kM (h.pick 1)<|kA h (fe gQ zz) λw h=>ko [U]<|kn<|wr<|λ_ r=>dA (cs:=dc zz) (v:=vI 0) rfl r (by kernel_rfl) (by kernel_rfl) (by kernel_rfl) (by kernel_rfl) (h.held 0 rfl)<|?_;obtain⟨rfl,rfl,rfl,rfl,rfl⟩:=yR H;exact⟨CK,CM,CN,CO,rfl,h.se 11 [2,6,7,8,9,3,4,5,10]⟩
  refine wl<|ko [U,U]<|qh h.m1 λh=>kS h 1 (fe Ay {zz with qO:=p1}) λw h=>kn<|ks<|kM h<|qh h.m1 λh=>kA h (fe gQ {zz with qO:=p1}) λw h=>ko [U]<|kn<|wr<|λ_ r=>dA (cs:=dc {zz with qO:=p1}) (v:=vI 0) rfl r (by kernel_rfl) (by kernel_rfl) (by kernel_rfl) (by kernel_rfl) (h.held 0 rfl)<|?_;obtain⟨rfl,rfl,rfl,rfl,rfl⟩:=yR H;exact⟨CK,CM,CN,CO,rfl,h.se 11 [2,6,7,8,9,3,4,5,10]⟩
 refine qI H (λZC H=>?_) λZC H=>?_
 ·cases H
 refine qI H (λZD H=>?_) λZD H=>?_
 ·cases H
 cases H
def j7(p1:Int):Option (Int):=
 some (-1)
theorem mN{p1 r0:Int}(H:j7 p1=some r0)(h:Fit z (an (L)) w) :
 Calls Tryz.prog 19 #[pN,vI p1] w λe w=>e=.returned (vI r0)∧Fit z (an (L)) w:=by
 unfold j7 at H;refine ke Tryz.func19 28 rfl λj=>ks<|ko [U]<|kn<|wq<|ks<|ko [U,U,U]<|bZ (rfl:true=true) [8,9]<|ko [U,U]<|bZ (rfl:true=true) [12,13,14,15,16,17,18]<|ko [U]<|kn<|λ_ r=>gb r (b:=true) rfl<|qq r<|ks<|ko [vI (-1)]<|kn<|wr<|tr<|?_;cases H;exact gu h
def lQ(p1:Int)(p2:aF):Option (aD×Int):=
 some ((⟨0,0,0,0,0,0⟩:aD),1)
theorem rB{p1 r1:Int}{p2:aF}{B2:Nat}{r0:aD}(H:lQ p1 p2=some (r0,r1))(h:Fit z (an (qU B2 p2::L)) w) :
 Calls Tryz.prog 21 #[pN,vI p1,.iface 42 (pA B2 0)] w λe w=>e=.returned (.tuple #[dY r0,vI r1])∧Fit z (an (qU B2 p2::L)) w:=by
 unfold lQ at H;refine ke Tryz.func21 57 rfl λj=>ks<|kN h (#[vI 0,vI 0,vI 0,vI 0,vI 0,vI 0]) 47 λb1 w h=>ko [U]<|kn<|wq<|ks<|ko [U,U,U]<|bZ (rfl:true=true) [13,14]<|ko [U]<|kn<|λ_ r=>gb r (b:=true) rfl<|qq r<|ks<|ko [U]<|kA h (pts b1 (.cells #[vI 0,vI 0,vI 0,vI 0,vI 0,vI 0] 47)) λw h=>ko [U]<|kn<|wr<|tr<|λ_ r=>dA (cs:=[vI 0,vI 0,vI 0,vI 0,vI 0,vI 0]) (v:=vI 1) rfl r (by kernel_rfl) (by kernel_rfl) (by kernel_rfl) (by kernel_rfl) (h.held 0 rfl)<|?_;cases H;exact⟨rfl,h.se 2 [1]⟩
def G9(p0:ah)(p1:Bool):Option (ah):=
 some ({p0 with watched:=p1})
theorem Tv{p0 q0:ah}{p1:Bool}{B0 er eN:Nat}{eu dU:Option Addr}(H:G9 p0 p1=some q0)(h:Fit z (an (dx B0 p0 eu er dU eN::iC eu er p0.cell::bY dU eN p0.log::L)) w) :
 Calls Tryz.prog 27 #[pA B0 0,vB p1] w λe w=>∃x1 x2 x3 x4,e=.returned (.tuple #[])∧Fit z (an (dx B0 q0 x1 x2 x3 x4::iC x1 x2 q0.cell::bY x3 x4 q0.log::L)) w:=by
 unfold G9 at H;refine ke Tryz.func27 10 rfl λj=>ks<|ko [U,U]<|kn<|λ_ r=>gb r (b:=true) rfl<|qq r<|wl<|ko [U,U,U,U]<|kS h 5 (pts B0 (.cells #[vI p0.jI,vI p0.dZ,.slice eu p0.cell.length er,.slice dU p0.log.length eN,vI p0.oT,vB p1] 92)) λw h=>kl<|?_;cases H;exact xv4 eu er dU eN h
def D3(p0:ai)(bK:ah)(p1:Int):Option (Bool):=
 (if p1≥0 then(if p1<((p0.ae.length:Nat):Int)then if bT p1 p0.ae.length then some ((ag p0.ae p1.toNat).aH==13)else none else some false)else some false)
theorem Xb{p0:ai}{bK:ah}{p1:Int}{B0 bU er eN eW eD bP bD:Nat}{eu dU eO ei cT ax:Option Addr}{r0:Bool}(H:D3 p0 bK p1=some r0)(h:Fit z (an (fb B0 p0 (.iface 33 (pA bU 0)) eO eW ei eD cT bP ax bD::gD eO eW p0.code::ew ei eD p0.aP::eA cT bP p0.ak::ey B0 ax bD p0.ae::dx bU bK eu er dU eN::iC eu er bK.cell::bY dU eN bK.log::L)) w) :
 Calls Tryz.prog 28 #[pA B0 0,vI p1] w λe w=>e=.returned (vB r0)∧Fit z (an (fb B0 p0 (.iface 33 (pA bU 0)) eO eW ei eD cT bP ax bD::gD eO eW p0.code::ew ei eD p0.aP::eA cT bP p0.ak::ey B0 ax bD p0.ae::dx bU bK eu er dU eN::iC eu er bK.cell::bY dU eN bK.log::L)) w:=by
 unfold D3 at H;refine ke Tryz.func28 31 rfl λj=>ks<|ko [U]<|kn<|ks<|ko [U,U,U]<|cS (rfl:true=true) [8,9] [vI p1,vB (decide (p1≥0))]<|ko [vB (decide (p1≥0)),vB (decide (p1≥0))]<|qI H (λvk H=>?_) λvk H=>?_
 ·refine cS (dT vk) [12,13,14,15] [vI p1,pA B0 0,pA B0 0,pA B0 9]<|q9 (dT vk) h 9<|cS (dT vk) [17,18] [vI ((p0.ae.length:Nat):Int),vB (decide (p1<((p0.ae.length:Nat):Int)))]<|mH (dT vk) (vB (decide (p1<((p0.ae.length:Nat):Int))))<|ko [vB (decide (p1<((p0.ae.length:Nat):Int)))]<|qI H (λza H=>?_) λza H=>?_
  ·refine cS (dT za) [21,22,23] [pA B0 0,pA B0 0,pA B0 9]<|q9 (dT za) h 9<|qg H λnE H=>cS (dT za) [25] [vI p1]<|λ_ r=>Ov (pX r (dT za)) r (pA (bg ax) (p1.toNat*188)) (kW (k:=.i64) (E:=131) rfl (by kernel_rfl) (by kernel_rfl) (by kernel_rfl) (by kernel_rfl) (h.pick 4) nE)<|?_;refine cS (dT za) [27] [pA (bg ax) (p1.toNat*188+2)]<|λ_ r=>ld (pX r (dT za)) r (vI (au p0 p1).aH) ((h.pick 4).cL (sz:=188) (i:=p1.toNat) (af B0) (f:=2) (bf nE) (by kernel_rfl))<|?_;refine cS (dT za) [29] [vB ((au p0 p1).aH==13)]<|mH (dT za) (vB ((au p0 p1).aH==13))<|ko [vB ((au p0 p1).aH==13)]<|kn<|wr<|?_;cases H;exact gu h
  refine bZ (dF za) [21,22,23,24,25,26,27,28,29]<|mF (dF za) (vB false)<|ko [U]<|kn<|wr<|?_;cases H;exact gu h
 refine bZ (dF vk) [12,13,14,15,16,17,18]<|mF (dF vk) (vB false)<|ko [U]<|bZ (rfl:false=false) [21,22,23,24,25,26,27,28,29]<|ko [U,U]<|kn<|wr<|?_;cases H;exact gu h
def Fy(p0:ah):Option ((List be)):=
 if 0≤((p0.log.length:Nat):Int)∧((p0.log.length:Nat):Int)*48≤140737488355328 then if p0.log.length=(List.replicate p0.log.length (⟨0,0,0,0,0,false⟩:be)).length then some p0.log else none else none
theorem Vt{p0:ah}{B0 er eN:Nat}{eu dU:Option Addr}{r0:List be}(H:Fy p0=some r0)(h:Fit z (an (dx B0 p0 eu er dU eN::iC eu er p0.cell::bY dU eN p0.log::L)) w) :
 Calls Tryz.prog 29 #[pA B0 0] w λe w=>∃y1,e=.returned (.slice y1 r0.length r0.length)∧Fit z (an (dx B0 p0 eu er dU eN::iC eu er p0.cell::bY dU eN p0.log::bY y1 r0.length r0::L)) w:=by
 unfold Fy at H;refine ke Tryz.func29 19 rfl λj=>ks<|ko [U]<|kn<|wq<|ks<|ko [U,U]<|kn<|λ_ r=>ik r (b:=false) rfl<|qq r<|wk<|tn<|ks<|ko [U,U,U]<|kL h 3<|qg H λc5 H=>ko [vI ((p0.log.length:Nat):Int)]<|λ_ r=>pW (i:=((p0.log.length:Nat):Int)) (bytes:=48) (zc:=#[vI 0,vI 0,vI 0,vI 0,vI 0,vB false]) (⟨0,0,0,0,0,false⟩:be) (wn rfl) rfl rfl r rfl (by kernel_rfl) (by kernel_rfl) c5 xy (E:=159) (by kernel_rfl) (by kernel_rfl) rfl rfl h λBt w _ h r=>qq r<|ko [U]<|kn<|ks<|ko [U,U,U,U]<|kL (h.pick 1) 3<|qg H λc7 H=>qh h.m3.m1 λh=>λ_ r=>ZJ (wn rfl) rfl rfl r rfl (by kernel_rfl) (by kernel_rfl) xy (E:=159) (by kernel_rfl) (by kernel_rfl) c7 h λw _ h r=>qq r<|kn<|ks<|ko [U,U]<|kn<|wr<|λ_ r=>ez (v:=.slice Bt (List.replicate p0.log.length (⟨0,0,0,0,0,false⟩:be)).length p0.log.length) rfl r (by kernel_rfl)<|?_;have hn7:(List.replicate p0.log.length (⟨0,0,0,0,0,false⟩:be)).length=p0.log.length:=h.eY;replace h:=Fit.Dd hn7 (λq_=>rowOf 159 6 nK (.slice Bt q_ p0.log.length) p0.log) h;cases H;exact⟨Bt,(by first | rfl | simp only[hn7]),h.se 4 [2,3,1,0]⟩
def u0(K:Nat)(p0:fo):Nat→Int→Option (Bool)
 | 0,_=>none
 | k1+1,g2=>(if g2<((p0.jQ.length:Nat):Int)then if bT g2 p0.jQ.length then eL (mb (ag p0.jQ g2.toNat) p0.cX) (λr5=>(if r5=0 then some true else(u0 K p0 k1 (wi (g2+1)))))else none else some false)
def I5(K:Nat)(p0:fo):Option (Bool):=
 (u0 K p0 K 0)
theorem Po{K:Nat}{p0:fo}{fK ng gf kz:Option Addr}{fT nP jP k6:Nat}{p9:Nat→Option Addr×Nat}{r0:Bool}(H:I5 K p0=some r0)(h:Fit z (an (L)) w)(sk:B5 L fK p9 p0.mG)(w4:cu L 1 dK ng p0.Dh)(sn:cu L 1 dK gf p0.jQ)(w5:cu L 1 dK kz p0.nD) :
 Calls Tryz.prog 26 #[.agg #[.slice fK p0.mG.length fT,.slice ng p0.Dh.length nP,vI p0.cX,vI p0.gw,vI p0.gB,vI p0.jf,.slice gf p0.jQ.length jP,.slice kz p0.nD.length k6]] w λe w=>e=.returned (vB r0)∧Fit z (an (L)) w:=by
 unfold I5 at H;refine ke Tryz.func26 22 rfl λj=>ks<|kN h (#[.slice fK p0.mG.length fT,.slice ng p0.Dh.length nP,vI p0.cX,vI p0.gw,vI p0.gB,vI p0.jf,.slice gf p0.jQ.length jP,.slice kz p0.nD.length k6]) 32 λb1 w h=>ko [U]<|kn<|wq<|ks<|ko [U]<|kn<|wb<|λ_ r=>dP (β:=Nat) id (λm a w=>∃g2:Int,(u0 K p0 m g2)=some r0∧∃j,kP 22 (lk [(1,pA b1 0),(3,vI g2)] j) a∧Fit z (an (Kq b1 p0 fK fT ng nP gf jP kz k6::L)) w) K ⟨0,H,r.fj h⟩<|?_;clear h r H;rintro k1 a w ⟨g2,H,j,r,h⟩;cases k1 with
 | zero=>exact absurd H (by simp[u0])
 | succ k1 =>
  rw[u0]at H;refine qq r<|wq<|ks<|ko [U,U,U]<|kL h 6<|ko [vI ((p0.jQ.length:Nat):Int),vB (decide (g2<((p0.jQ.length:Nat):Int)))]<|kn<|dR H (λc3 H=>?_) λc3 H=>?_
  ·refine wk<|tn<|wq<|wb<|wq<|qg H λc4 H=>fO H λr5 e6 H=>λ_ r=>fy [(b1,6,[.slice gf p0.jQ.length jP]),(bg gf,jY gf+g2.toNat*1,[vI (ag p0.jQ g2.toNat)]),(b1,2,[vI p0.cX])] [0,1,4,6] 10 h (λh=>⟨⟨h.cell 6 rfl,gE⟩,⟨sn.cell c4 (h.dn 1) 0 rfl,gE⟩,⟨h.cell 2 rfl,gE⟩,gE⟩) λw h hd =>qq r<|gg hd 6 [(0,12,pA b1 6),(1,13,pA b1 6),(3,15,vI g2),(6,18,pA b1 2)]<|kx hd 0 5 2 rfl rfl<|λ_ r=>mJ hd 4 4 rfl (wn rfl) r (pA (bg gf) (jY gf+g2.toNat*1)) (hrun:=λw=>xW (k:=.i64) (E:=3) (cc:=jP) rfl (by kernel_rfl) (by kernel_rfl) rfl (by kernel_rfl) (by kernel_rfl) sn c4)<|?_;refine kx hd 1 3 5 rfl rfl<|kx hd 2 2 7 rfl rfl<|λ_ r=>eZ 8 rfl<|qq r<|eU (sK (H:=e6) (h:=h) :) λw h=>kn<|λ_ r=>xE<|gU 0 9 rfl (wn rfl) r (vB (r5==0))<|?_;refine λ_ r=>ji<|qq r<|tn<|dR H (λc7 H=>?_) λc7 H=>?_
   ·refine ks<|ko [U]<|kn<|wr<|br<|tr<|tr<|br<|tr<|?_;cases H;exact gu (h.se 1 [])
   refine wk<|bn<|tn<|wl<|ko [U,vI (wi (g2+1)),vI (wi (g2+1))]<|kn<|?_;exact λ_ r=>⟨_,⟨(wi (g2+1)),H,r.fj h⟩,Nat.lt_succ_self _⟩
  refine wx<|te<|te<|bh<|tn<|ks<|ko [U]<|kn<|wr<|?_;cases H;exact gu (h.se 1 [])
def He(p1:Int):Option (Bool):=
 some false
theorem Vu{p1:Int}{r0:Bool}(H:He p1=some r0)(h:Fit z (an (L)) w) :
 Calls Tryz.prog 28 #[pN,vI p1] w λe w=>e=.returned (vB r0)∧Fit z (an (L)) w:=by
 unfold He at H;refine ke Tryz.func28 31 rfl λj=>ks<|ko [U]<|kn<|ks<|ko [U,U,U]<|bZ (rfl:false=false) [8,9]<|ko [U,U]<|bZ (rfl:false=false) [12,13,14,15,16,17,18]<|ko [U,U]<|bZ (rfl:false=false) [21,22,23,24,25,26,27,28,29]<|ko [U,U]<|kn<|wr<|?_;cases H;exact gu h
def iM(K:Nat)(p0:fo):Nat→ah→ai→aF→Int→Int→Option ((ai×ah×Int)⊕(Bool))
 | 0,_,_,_,_,_=>none
 | k1+1,S52,QE,YA,MX,ZE=>(if ZE<((p0.jQ.length:Nat):Int)then(if ZE<400 then if bT ZE p0.jQ.length then eL (mb (ag p0.jQ ZE.toNat) p0.cX) (λr64=>eL (D3 QE S52 r64) (λr66=>TV (aY K QE S52 r64 YA) (λOb ER M6 N8 S72=>eL (Fy N8) (λVv=>(if ER=0 then(if(wi (((Vv.length:Nat):Int)-MX))<0 then some (.inr false)else(if(wi (((Vv.length:Nat):Int)-MX))>1 then some (.inr false)else(if r66=true then(if(wi (((Vv.length:Nat):Int)-MX))=0 then(if Ob.aa6=0 then(iM K p0 k1 N8 M6 S72 ((Vv.length:Nat):Int) (wi (ZE+1)))else(if(wi (((Vv.length:Nat):Int)-MX))=1 then(iM K p0 k1 N8 M6 S72 ((Vv.length:Nat):Int) (wi (ZE+1)))else some (.inr false)))else some (.inr false))else(if Ob.aa6=0 then(iM K p0 k1 N8 M6 S72 ((Vv.length:Nat):Int) (wi (ZE+1)))else(if(wi (((Vv.length:Nat):Int)-MX))=1 then(iM K p0 k1 N8 M6 S72 ((Vv.length:Nat):Int) (wi (ZE+1)))else some (.inr false))))))else some (.inr false))))))else none else some (.inl (QE,S52,MX)))else some (.inl (QE,S52,MX)))
def jx(K:Nat)(p0:fo)(ZF:ah):Nat→Int→Int→Option ((Int)⊕(Bool))
 | 0,_,_=>none
 | k2+1,LF,Na=>(if Na<((p0.jQ.length:Nat):Int)then(if Na<400 then if bT Na p0.jQ.length then eL (mb (ag p0.jQ Na.toNat) p0.cX) (λabu=>eL (He abu) (λabc=>pL (lQ abu (⟨p0.nD⟩:aF)) (λvt abg=>eL (Fy ZF) (λIo=>(if abg=0 then(if(wi (((Io.length:Nat):Int)-LF))<0 then some (.inr false)else(if(wi (((Io.length:Nat):Int)-LF))>1 then some (.inr false)else(if abc=true then(if(wi (((Io.length:Nat):Int)-LF))=0 then(if vt.aa6=0 then(jx K p0 ZF k2 ((Io.length:Nat):Int) (wi (Na+1)))else(if(wi (((Io.length:Nat):Int)-LF))=1 then(jx K p0 ZF k2 ((Io.length:Nat):Int) (wi (Na+1)))else some (.inr false)))else some (.inr false))else(if vt.aa6=0 then(jx K p0 ZF k2 ((Io.length:Nat):Int) (wi (Na+1)))else(if(wi (((Io.length:Nat):Int)-LF))=1 then(jx K p0 ZF k2 ((Io.length:Nat):Int) (wi (Na+1)))else some (.inr false))))))else some (.inr false))))))else none else some (.inl LF))else some (.inl LF))
def sZ(K:Nat)(p0:fo):Option (Bool):=
 eL (j1 K p0.cX (⟨p0.gw,p0.gB,p0.jf⟩:cY)) (λr2=>pL (rh r2) (λr4 r5=>(match r4 with | some S7=>eL (jK K (⟨p0.mG⟩:aO) p0.Dh p0.cX (⟨p0.gw,p0.gB,p0.jf⟩:cY)) (λpZ=>nC (iv K S7 (⟨p0.mG⟩:aO) p0.Dh p0.cX (⟨p0.gw,p0.gB,p0.jf⟩:cY)) (λlI r16 nn=>(match lI with | some lY=>(if r16=pZ then(if r16=0 then if p0.nD.length*8≤140737488355328 then eL (G9 nn true) (λFs=>TR ((iM K p0 K Fs lY (⟨p0.nD⟩:aF) 0 0)) (λS43 S44 g49=>eL (jD S43 S44 0) (λFw=>(if Fw=0 then(if g49>0 then some true else(if((p0.jQ.length:Nat):Int)=0 then some true else eL (I5 K p0) (λEN=>some (!EN))))else some true))))else none else some true)else some false) | none=>(if r16=pZ then(if r16=0 then if p0.nD.length*8≤140737488355328 then eL (G9 nn true) (λZF=>TK ((jx K p0 ZF K 0 0)) (λZH=>eL (j7 0) (λabv=>(if abv=0 then(if ZH>0 then some true else(if((p0.jQ.length:Nat):Int)=0 then some true else eL (I5 K p0) (λabh=>some (!abh))))else some true))))else none else some true)else some false)))) | none=>eL (jK K (⟨p0.mG⟩:aO) p0.Dh p0.cX (⟨p0.gw,p0.gB,p0.jf⟩:cY)) (λzy=>none))))
end
end Mo
end
section
namespace Mo
open Go Go.RowKit SL GX
set_option maxRecDepth 100000
set_option maxHeartbeats 4000000
noncomputable section
variable {z w:World}{L:List bE}
theorem Tt{K:Nat}{p0:fo}{fK ng gf kz:Option Addr}{fT nP jP k6:Nat}{p9:Nat→Option Addr×Nat}{r0:Bool}(H:sZ K p0=some r0)(h:Fit z (an (L)) w)(sk:B5 L fK p9 p0.mG)(w4:cu L 1 dK ng p0.Dh)(sn:cu L 1 dK gf p0.jQ)(w5:cu L 1 dK kz p0.nD)(M7:cu L 1 FN (some ⟨0,0,none⟩) LJ)(sS:cu L 5 gh (some ⟨1,0,none⟩) tY) :
 Calls Tryz.prog 6 #[.agg #[.slice fK p0.mG.length fT,.slice ng p0.Dh.length nP,vI p0.cX,vI p0.gw,vI p0.gB,vI p0.jf,.slice gf p0.jQ.length jP,.slice kz p0.nD.length k6]] w λe w=>e=.returned (vB r0)∧Fit z (an (L)) w:=by
 unfold sZ at H;refine ke Tryz.func6 145 rfl λj=>ks<|kN h (#[.slice fK p0.mG.length fT,.slice ng p0.Dh.length nP,vI p0.cX,vI p0.gw,vI p0.gB,vI p0.jf,.slice gf p0.jQ.length jP,.slice kz p0.nD.length k6]) 32 λb1 w h=>ko [U]<|kn<|ks<|ko [U]<|kL h 2<|ko [U]<|λ_ r=>tK (wn rfl) r (.agg #[vI p0.gw,vI p0.gB,vI p0.jf]) (cs:=[vI p0.gw,vI p0.gB,vI p0.jf]) (h.held 3 rfl)<|?_;refine fO H λr2 e3 H=>eU (wI (H:=e3) (h:=h) :) λw h=>ta H λr4 r5 e6 H=>?_;cases r4 with
 | some S7 =>
  refine xc5 (Dj (H:=e6) (h:=h) :) λSb x9 xV tN vZ w h=>ko [.tuple #[pA Sb 0,vI r5],U,U,U,U]<|kn<|ks<|ko [U]<|λ_ r=>tK (wn rfl) r (.agg #[.slice fK p0.mG.length fT]) (cs:=[.slice fK p0.mG.length fT]) ⟨(h.pick 3).cell 0 rfl,gE⟩<|?_;refine ko [U]<|kL (h.pick 3) 1<|ko [U]<|kL (h.pick 3) 2<|ko [U]<|λ_ r=>tK (wn rfl) r (.agg #[vI p0.gw,vI p0.gB,vI p0.jf]) (cs:=[vI p0.gw,vI p0.gB,vI p0.jf]) ((h.pick 3).held 3 rfl)<|?_;refine fO H λpZ Ci H=>eU (pY (Jt:=ng) (Ju:=nP) (Ky:=(cu.up 4 w4)) (bG:=fK) (cr:=fT) (aZ:=(xw.up 4 sk)) (aM:=p9) (H:=Ci) (h:=h) :) λw h=>ko [U]<|kn<|ks<|ko [U,U,U]<|λ_ r=>tK (wn rfl) r (.agg #[.slice fK p0.mG.length fT]) (cs:=[.slice fK p0.mG.length fT]) ⟨(h.pick 3).cell 0 rfl,gE⟩<|?_;refine ko [U]<|kL (h.pick 3) 1<|ko [U]<|kL (h.pick 3) 2<|ko [U]<|λ_ r=>tK (wn rfl) r (.agg #[vI p0.gw,vI p0.gB,vI p0.jf]) (cs:=[vI p0.gw,vI p0.gB,vI p0.jf]) ((h.pick 3).held 3 rfl)<|?_;refine ql H λlI r16 nn ye H=>?_;cases lI with
  | some lY =>
   have hc:=wW (tT:=ng) (uq:=nP) (Be:=(cu.up 1 w4)) (iw:=fK) (jM:=fT) (jN:=(xw.up 1 sk)) (sS:=cu.up 1 sS) (gR:=p9) (H:=ye) (h:=h);intro _ r;refine cl (wn rfl) r hc ?_;clear hc h;rintro _ w ⟨CP,oQ,ow,ur,vM,xn,zT,JH,DX,yL,C8,C9,qQ,rfl,h⟩;refine⟨_,rfl,?_⟩;refine ko [.tuple #[pA CP 0,vI r16],U,U,U,U]<|kn<|wq<|ks<|ko [U,U,vB (r16 != pZ)]<|kn<|oA H (λxz H=>?_) λxz H=>?_
   ·refine wk<|tn<|wq<|ks<|ko [U,vB (r16 != 0)]<|kn<|oA H (λzb H=>?_) λzb H=>?_
    ·refine wk<|tn<|ks<|ko [U,U]<|kL (h.pick 8) 7<|qg H λEy H=>WQ (wE (va:=kz) (c:=k6) (l:=p0.nD) (h:=h) (hv:=(cu.up 9 w5)) Ey :) λTu w h=>ko [U]<|kn<|ks<|fO H λFs RG H=>ko [U]<|qh h.m3.m3.m3 λh=>jz (Tv (H:=RG) (h:=h) :) λzd yg yh DZ w h=>kn<|ks<|ko [U]<|kn<|?_;obtain⟨o51,H,aa9⟩:=jd3 H;refine λ_ r=>dw (β:=Unit) (λ_ a w=>∃Yp:Option Addr,∃Yq:Nat,∃abx:Option Addr,∃aby:Nat,∃S43:ai,∃S44:ah,∃g49:Int,.inl (S43,S44,g49)=o51∧∃j,kP 145 (lk [(1,pA b1 0),(6,pA CP 0),(9,vI g49)] j) a∧Fit z (an (Kq b1 p0 fK fT ng nP gf jP kz k6::fb CP S43 (.iface 33 (pA Sb 0)) oQ ow ur vM xn zT JH DX::dx Sb S44 Yp Yq abx aby::iC Yp Yq S44.cell::bY abx aby S44.log::gD oQ ow S43.code::ew ur vM S43.aP::eA xn zT S43.ak::ey CP JH DX S43.ae::L)) w) ?_ ?_
     ·refine qq r<|ks<|ko [U]<|kn<|wb<|λ_ r=>dP (β:=Nat) id (λm a w=>∃Kv:Option Addr,∃Kw:Nat,∃abi:Option Addr,∃abj:Nat,∃S52:ah,∃QE:ai,∃YA:aF,∃MX:Int,∃ZE:Int,(iM K p0 m S52 QE YA MX ZE)=some o51∧∃j,kP 145 (lk [(1,pA b1 0),(3,pA Sb 0),(6,pA CP 0),(8,pA Tu 0),(9,vI MX),(10,vI ZE)] j) a∧Fit z (an (Kq b1 p0 fK fT ng nP gf jP kz k6::dx Sb S52 Kv Kw abi abj::iC Kv Kw S52.cell::bY abi abj S52.log::fb CP QE (.iface 33 (pA Sb 0)) oQ ow ur vM xn zT JH DX::gD oQ ow QE.code::ew ur vM QE.aP::eA xn zT QE.ak::ey CP JH DX QE.ae::qU Tu YA::L)) w) K ⟨zd,yg,yh,DZ,Fs,lY,(⟨p0.nD⟩:aF),0,0,H,r.fj (h.se 10 [9,0,1,2,4,5,6,7,8,3])⟩<|?_;clear h r H;rintro k1 a w ⟨Kv,Kw,abi,abj,S52,QE,YA,MX,ZE,H,j,r,h⟩;cases k1 with
      | zero=>exact absurd H (by simp[iM])
      | succ k1 =>
       rw[iM]at H;refine qq r<|wq<|ks<|ko [U,U,U]<|kL h 6<|ko [vI ((p0.jQ.length:Nat):Int),vB (decide (ZE<((p0.jQ.length:Nat):Int))),vB (decide (ZE<((p0.jQ.length:Nat):Int)))]<|qI H (λc61 H=>?_) λc61 H=>?_
       ·refine cS (dT c61) [67,68] [vI ZE,vB (decide (ZE<400))]<|mH (dT c61) (vB (decide (ZE<400)))<|kn<|dR H (λc62 H=>?_) λc62 H=>?_
        ·refine wk<|tn<|wq<|wb<|wq<|qg H λc63 H=>fO H λr64 e65 H=>λ_ r=>fy [(b1,6,[.slice gf p0.jQ.length jP]),(bg gf,jY gf+ZE.toNat*1,[vI (ag p0.jQ ZE.toNat)]),(b1,2,[vI p0.cX])] [0,1,4,6] 10 h (λh=>⟨⟨h.cell 6 rfl,gE⟩,⟨sn.cell c63 (h.dn 10) 0 rfl,gE⟩,⟨h.cell 2 rfl,gE⟩,gE⟩) λw h hd =>qq r<|gg hd 6 [(0,72,pA b1 6),(1,73,pA b1 6),(3,75,vI ZE),(6,78,pA b1 2)]<|kx hd 0 5 2 rfl rfl<|λ_ r=>mJ hd 4 4 rfl (wn rfl) r (pA (bg gf) (jY gf+ZE.toNat*1)) (hrun:=λw=>xW (k:=.i64) (E:=3) (cc:=jP) rfl (by kernel_rfl) (by kernel_rfl) rfl (by kernel_rfl) (by kernel_rfl) sn c63)<|?_;refine kx hd 1 3 5 rfl rfl<|kx hd 2 2 7 rfl rfl<|λ_ r=>eZ 8 rfl<|qq r<|eU (sK (H:=e65) (h:=h) :) λw h=>kn<|λ_ r=>xE<|gU 0 9 rfl (wn rfl) r (vI r64)<|?_;refine λ_ r=>ji<|qq r<|tn<|ks<|fO H λr66 e67 H=>ko [U,U]<|qh h.m3.m3.m3.m8.m8.m8.m8.m8 λh=>eU (Xb (H:=e67) (h:=h) :) λw h=>ko [U]<|kn<|ks<|qb5 H λOb ER M6 N8 S72 e73 H=>ko [U,U,U,U]<|qh h.m9.m8.m8.m8.m8.m8.m8.m8.m8 λh=>jz (tG (M7:=cu.up 1 M7) (H:=e73) (h:=h) :) λKU KV KN RH w h=>ko [.tuple #[dY Ob,vI ER],U,U]<|kN h (#[vI 0,vI 0,vI 0,vI 0,vI 0,vI 0]) 47 λb78 w h=>kA h (fe b78 Ob) λw h=>ko [U]<|kn<|ks<|fO H λVv e80 H=>ko [U]<|qh h.m8.m8.m8 λh=>WQ (Vt (H:=e80) (h:=h) :) λYF w h=>ko [U]<|kn<|ks<|ko [U,vI ((Vv.length:Nat):Int),U,vI (wi (((Vv.length:Nat):Int)-MX)),vI (wi (((Vv.length:Nat):Int)-MX))]<|kn<|ks<|ko [U,vI ((Vv.length:Nat):Int),vI ((Vv.length:Nat):Int)]<|kn<|ks<|ko [U,vB (ER != 0),vB (ER != 0)]<|qI H (λc82 H=>?_) λc82 H=>?_
         ·refine cS (bne_eq_false_iff_eq.mpr c82) [103,104] [vI (wi (((Vv.length:Nat):Int)-MX)),vB (decide ((wi (((Vv.length:Nat):Int)-MX))<0))]<|mF (bne_eq_false_iff_eq.mpr c82) (vB (decide ((wi (((Vv.length:Nat):Int)-MX))<0)))<|ko [vB (decide ((wi (((Vv.length:Nat):Int)-MX))<0))]<|qI H (λc83 H=>?_) λc83 H=>?_
          ·refine bZ (dT c83) [107,108]<|mH (dT c83) (vB true)<|ko [U]<|bZ (rfl:true=true) [111,112]<|Jl true [113,114]<|bZ (rfl:true=true) [115]<|ko [U,U]<|bZ (rfl:true=true) [118,119,120,121]<|Jl true [122,123]<|bZ (rfl:true=true) [124]<|ko [U]<|kn<|λ_ r=>gb r (b:=true) rfl<|qq r<|ks<|ko [U]<|kn<|wr<|br<|tr<|tr<|br<|tr<|λ_ r=>ez (v:=vB false) rfl r (by kernel_rfl)<|?_;replace H:=jx3 H aa9;cases H;exact⟨rfl,h.se 12 []⟩
          refine cS (dF c83) [107,108] [vI (wi (((Vv.length:Nat):Int)-MX)),vB (decide ((wi (((Vv.length:Nat):Int)-MX))>1))]<|mF (dF c83) (vB (decide ((wi (((Vv.length:Nat):Int)-MX))>1)))<|ko [vB (decide ((wi (((Vv.length:Nat):Int)-MX))>1))]<|qI H (λc84 H=>?_) λc84 H=>?_
          ·refine bZ (dT c84) [111,112]<|Jl true [113,114]<|bZ (dT c84) [115]<|mH (dT c84) (vB true)<|ko [U]<|bZ (rfl:true=true) [118,119,120,121]<|Jl true [122,123]<|bZ (rfl:true=true) [124]<|ko [U]<|kn<|λ_ r=>gb r (b:=true) rfl<|qq r<|ks<|ko [U]<|kn<|wr<|br<|tr<|tr<|br<|tr<|λ_ r=>ez (v:=vB false) rfl r (by kernel_rfl)<|?_;replace H:=jx3 H aa9;cases H;exact⟨rfl,h.se 12 []⟩
          refine cS (dF c84) [111,112] [vB r66,vB r66]<|qI H (λc85 H=>?_) λc85 H=>?_
          ·refine cS (c85) [113,114] [vI (wi (((Vv.length:Nat):Int)-MX)),vB ((wi (((Vv.length:Nat):Int)-MX)) != 0)]<|λ_ r=>Ov (pX r (dF c84)) r (vB ((wi (((Vv.length:Nat):Int)-MX)) != 0)) (Kb (b:=r66) rfl (by kernel_rfl) (c85) (by kernel_rfl))<|?_;refine mF (dF c84) (vB ((wi (((Vv.length:Nat):Int)-MX)) != 0))<|ko [vB ((wi (((Vv.length:Nat):Int)-MX)) != 0)]<|qI H (λc86 H=>?_) λc86 H=>?_
           ·refine cS (bne_eq_false_iff_eq.mpr c86) [118] [pA b78 2]<|λ_ r=>ld (pX r (bne_eq_false_iff_eq.mpr c86)) r (vI Ob.aa6) ((h.pick 4).cell 2 rfl)<|?_;refine cS (bne_eq_false_iff_eq.mpr c86) [120,121] [vB (Ob.aa6 != 0),vB (Ob.aa6 != 0)]<|qI H (λc87 H=>?_) λc87 H=>?_
            ·refine bZ (bne_eq_false_iff_eq.mpr c87) [122,123]<|λ_ r=>Ov (pX r (bne_eq_false_iff_eq.mpr c86)) r (vB false) (Kc (b:=(Ob.aa6 != 0)) rfl (by kernel_rfl) (bne_eq_false_iff_eq.mpr c87) (by kernel_rfl))<|?_;refine mF (bne_eq_false_iff_eq.mpr c86) (vB false)<|kn<|λ_ r=>ik r (b:=false) rfl<|qq r<|wk<|bn<|tn<|wl<|ko [U,vI (wi (ZE+1)),vI (wi (ZE+1))]<|kn<|?_;exact λ_ r=>⟨_,⟨KU,KV,KN,RH,N8,M6,S72,((Vv.length:Nat):Int),(wi (ZE+1)),H,r.fj (h.se 12 [11,0,1,2,5,6,7,8,9,10])⟩,Nat.lt_succ_self _⟩
            refine cS (bne_iff_ne.mpr c87) [122,123] [vI (wi (((Vv.length:Nat):Int)-MX)),vB ((wi (((Vv.length:Nat):Int)-MX)) != 1)]<|λ_ r=>Ov (pX r (bne_eq_false_iff_eq.mpr c86)) r (vB ((wi (((Vv.length:Nat):Int)-MX)) != 1)) (Kb (b:=(Ob.aa6 != 0)) rfl (by kernel_rfl) (bne_iff_ne.mpr c87) (by kernel_rfl))<|?_;refine mF (bne_eq_false_iff_eq.mpr c86) (vB ((wi (((Vv.length:Nat):Int)-MX)) != 1))<|kn<|oA H (λc88 H=>?_) λc88 H=>?_
            ·refine wk<|bn<|tn<|wl<|ko [U,vI (wi (ZE+1)),vI (wi (ZE+1))]<|kn<|?_;exact λ_ r=>⟨_,⟨KU,KV,KN,RH,N8,M6,S72,((Vv.length:Nat):Int),(wi (ZE+1)),H,r.fj (h.se 12 [11,0,1,2,5,6,7,8,9,10])⟩,Nat.lt_succ_self _⟩
            refine ks<|ko [U]<|kn<|wr<|br<|tr<|tr<|br<|tr<|λ_ r=>ez (v:=vB false) rfl r (by kernel_rfl)<|?_;replace H:=jx3 H aa9;cases H;exact⟨rfl,h.se 12 []⟩
           refine bZ (bne_iff_ne.mpr c86) [118,119,120,121]<|Jl true [122,123]<|bZ (bne_iff_ne.mpr c86) [124]<|mH (bne_iff_ne.mpr c86) (vB true)<|kn<|λ_ r=>gb r (b:=true) rfl<|qq r<|ks<|ko [U]<|kn<|wr<|br<|tr<|tr<|br<|tr<|λ_ r=>ez (v:=vB false) rfl r (by kernel_rfl)<|?_;replace H:=jx3 H aa9;cases H;exact⟨rfl,h.se 12 []⟩
          refine bZ (bF c85) [113,114]<|λ_ r=>Ov (pX r (dF c84)) r (vB false) (Kc (b:=r66) rfl (by kernel_rfl) (bF c85) (by kernel_rfl))<|?_;refine mF (dF c84) (vB false)<|ko [U]<|cS (rfl:false=false) [118] [pA b78 2]<|q9 (rfl:false=false) (h.pick 4) 2<|cS (rfl:false=false) [120,121] [vB (Ob.aa6 != 0),vB (Ob.aa6 != 0)]<|qI H (λZm H=>?_) λZm H=>?_
          ·refine bZ (bne_eq_false_iff_eq.mpr Zm) [122,123]<|λ_ r=>Ov (pX r (c:=false) rfl) r (vB false) (Kc (b:=(Ob.aa6 != 0)) rfl (by kernel_rfl) (bne_eq_false_iff_eq.mpr Zm) (by kernel_rfl))<|?_;refine ko [U]<|kn<|λ_ r=>ik r (b:=false) rfl<|qq r<|wk<|bn<|tn<|wl<|ko [U,vI (wi (ZE+1)),vI (wi (ZE+1))]<|kn<|?_;exact λ_ r=>⟨_,⟨KU,KV,KN,RH,N8,M6,S72,((Vv.length:Nat):Int),(wi (ZE+1)),H,r.fj (h.se 12 [11,0,1,2,5,6,7,8,9,10])⟩,Nat.lt_succ_self _⟩
          refine cS (bne_iff_ne.mpr Zm) [122,123] [vI (wi (((Vv.length:Nat):Int)-MX)),vB ((wi (((Vv.length:Nat):Int)-MX)) != 1)]<|λ_ r=>Ov (pX r (c:=false) rfl) r (vB ((wi (((Vv.length:Nat):Int)-MX)) != 1)) (Kb (b:=(Ob.aa6 != 0)) rfl (by kernel_rfl) (bne_iff_ne.mpr Zm) (by kernel_rfl))<|?_;refine ko [vB ((wi (((Vv.length:Nat):Int)-MX)) != 1)]<|kn<|oA H (λVs H=>?_) λVs H=>?_
          ·refine wk<|bn<|tn<|wl<|ko [U,vI (wi (ZE+1)),vI (wi (ZE+1))]<|kn<|?_;exact λ_ r=>⟨_,⟨KU,KV,KN,RH,N8,M6,S72,((Vv.length:Nat):Int),(wi (ZE+1)),H,r.fj (h.se 12 [11,0,1,2,5,6,7,8,9,10])⟩,Nat.lt_succ_self _⟩
          refine ks<|ko [U]<|kn<|wr<|br<|tr<|tr<|br<|tr<|λ_ r=>ez (v:=vB false) rfl r (by kernel_rfl)<|?_;replace H:=jx3 H aa9;cases H;exact⟨rfl,h.se 12 []⟩
         refine bZ (bne_iff_ne.mpr c82) [103,104]<|mH (bne_iff_ne.mpr c82) (vB true)<|ko [U]<|bZ (rfl:true=true) [107,108]<|ko [U,U]<|bZ (rfl:true=true) [111,112]<|Jl true [113,114]<|bZ (rfl:true=true) [115]<|ko [U,U]<|bZ (rfl:true=true) [118,119,120,121]<|Jl true [122,123]<|bZ (rfl:true=true) [124]<|ko [U]<|kn<|λ_ r=>gb r (b:=true) rfl<|qq r<|ks<|ko [U]<|kn<|wr<|br<|tr<|tr<|br<|tr<|λ_ r=>ez (v:=vB false) rfl r (by kernel_rfl)<|?_;replace H:=jx3 H aa9;cases H;exact⟨rfl,h.se 12 []⟩
        refine wx<|te<|te<|bh<|tn<|?_;exact λ_ r=>⟨(),Kv,Kw,abi,abj,QE,S52,MX,gH H,r.fj (h.se 10 [0,4,1,2,3,5,6,7,8])⟩
       refine bZ (dF c61) [67,68]<|mF (dF c61) (vB false)<|kn<|λ_ r=>ik r (b:=false) rfl<|qq r<|wx<|te<|te<|bh<|tn<|?_;exact λ_ r=>⟨(),Kv,Kw,abi,abj,QE,S52,MX,gH H,r.fj (h.se 10 [0,4,1,2,3,5,6,7,8])⟩
     clear h r;rintro _ a w ⟨Yp,Yq,abx,aby,S43,S44,g49,rfl,j,r,h⟩;replace H:=jk3 aa9;refine qq r<|ks<|fO H λFw e92 H=>ko [U]<|qh h.m4.m4.m4.m8.m8.m8.m8.m8 λh=>eU (ox (H:=e92) (h:=h) :) λw h=>ko [vB (Fw != 0),vB (Fw != 0)]<|qI H (λc93 H=>?_) λc93 H=>?_
     ·refine cS (bne_eq_false_iff_eq.mpr c93) [130,131] [vI g49,vB (decide (g49>0))]<|mF (bne_eq_false_iff_eq.mpr c93) (vB (decide (g49>0)))<|ko [vB (decide (g49>0))]<|qI H (λc94 H=>?_) λc94 H=>?_
      ·refine bZ (dT c94) [134,135,136,137,138]<|mH (dT c94) (vB true)<|ko [U]<|bZ (rfl:true=true) [141,142,143]<|ko [U,U]<|kn<|wr<|?_;cases H;exact gu (h.se 9 [])
      refine cS (dF c94) [134,135] [pA b1 6,pA b1 6]<|q9 (dF c94) (h.pick 8) 6<|cS (dF c94) [137,138] [vI ((p0.jQ.length:Nat):Int),vB (((p0.jQ.length:Nat):Int)==0)]<|mF (dF c94) (vB (((p0.jQ.length:Nat):Int)==0))<|ko [vB (((p0.jQ.length:Nat):Int)==0)]<|qI H (λVf H=>?_) λVf H=>?_
      ·refine bZ (beq_iff_eq.mpr Vf) [141,142,143]<|mH (beq_iff_eq.mpr Vf) (vB true)<|ko [U]<|kn<|wr<|?_;cases H;exact gu (h.se 9 [])
      refine λ_ r=>tK (pX r (bN Vf)) r (.agg #[.slice fK p0.mG.length fT,.slice ng p0.Dh.length nP,vI p0.cX,vI p0.gw,vI p0.gB,vI p0.jf,.slice gf p0.jQ.length jP,.slice kz p0.nD.length k6]) (cs:=[.slice fK p0.mG.length fT,.slice ng p0.Dh.length nP,vI p0.cX,vI p0.gw,vI p0.gB,vI p0.jf,.slice gf p0.jQ.length jP,.slice kz p0.nD.length k6]) ((h.pick 8).held 0 rfl)<|?_;refine fO H λEN e97 H=>Tf (bN Vf) (Po (fK:=fK) (fT:=fT) (sk:=(xw.up 9 sk)) (ng:=ng) (nP:=nP) (w4:=(cu.up 9 w4)) (gf:=gf) (jP:=jP) (sn:=(cu.up 9 sn)) (kz:=kz) (k6:=k6) (w5:=(cu.up 9 w5)) (p9:=p9) (H:=e97) (h:=h) :) λw h=>cS (bN Vf) [143] [vB (!EN)]<|mF (bN Vf) (vB (!EN))<|ko [vB (!EN)]<|kn<|wr<|?_;cases H;exact gu (h.se 9 [])
     refine bZ (bne_iff_ne.mpr c93) [130,131]<|mH (bne_iff_ne.mpr c93) (vB true)<|ko [U]<|bZ (rfl:true=true) [134,135,136,137,138]<|ko [U,U]<|bZ (rfl:true=true) [141,142,143]<|ko [U,U]<|kn<|wr<|?_;cases H;exact gu (h.se 9 [])
    refine ks<|ko [U]<|kn<|wr<|tr<|?_;cases H;exact gu (h.se 9 [])
   refine ks<|ko [U]<|kn<|wr<|tr<|?_;cases H;exact gu (h.se 9 [])
  | none =>
   refine jz (wX (tT:=ng) (uq:=nP) (Be:=(cu.up 1 w4)) (iw:=fK) (jM:=fT) (jN:=(xw.up 1 sk)) (sS:=cu.up 1 sS) (gR:=p9) (H:=ye) (h:=h) :) λM9 x99 Y1 Y2 w h=>ko [.tuple #[pN,vI r16],U,U,U,U]<|kn<|wq<|ks<|ko [U,U,vB (r16 != pZ)]<|kn<|oA H (λabI H=>?_) λabI H=>?_
   ·refine wk<|tn<|wq<|ks<|ko [U,vB (r16 != 0)]<|kn<|oA H (λabJ H=>?_) λabJ H=>?_
    ·refine wk<|tn<|ks<|ko [U,U]<|kL (h.pick 3) 7<|qg H λNb H=>WQ (wE (va:=kz) (c:=k6) (l:=p0.nD) (h:=h) (hv:=(cu.up 4 w5)) Nb :) λabC w h=>ko [U]<|kn<|ks<|fO H λZF abK H=>ko [U]<|qh h.m3.m3.m3 λh=>jz (Tv (H:=abK) (h:=h) :) λCw Cx abD abE w h=>kn<|ks<|ko [U]<|kn<|?_;obtain⟨abF,H,ZG⟩:=jd1 H;refine λ_ r=>dw (β:=Unit) (λ_ a w=>∃ZH:Int,.inl ZH=abF∧∃j,kP 145 (lk [(1,pA b1 0),(6,pN),(9,vI ZH)] j) a∧Fit z (an (Kq b1 p0 fK fT ng nP gf jP kz k6::L)) w) ?_ ?_
     ·refine qq r<|ks<|ko [U]<|kn<|wb<|λ_ r=>dP (β:=Nat) id (λm a w=>∃LF:Int,∃Na:Int,(jx K p0 ZF m LF Na)=some abF∧∃j,kP 145 (lk [(1,pA b1 0),(3,pA Sb 0),(6,pN),(8,pA abC 0),(9,vI LF),(10,vI Na)] j) a∧Fit z (an (Kq b1 p0 fK fT ng nP gf jP kz k6::dx Sb ZF Cw Cx abD abE::iC Cw Cx ZF.cell::bY abD abE ZF.log::qU abC (⟨p0.nD⟩:aF)::L)) w) K ⟨0,0,H,r.fj (h.se 5 [4,0,1,2,3])⟩<|?_;clear h r H;rintro k2 a w ⟨LF,Na,H,j,r,h⟩;cases k2 with
      | zero=>exact absurd H (by simp[jx])
      | succ k2 =>
       rw[jx]at H;refine qq r<|wq<|ks<|ko [U,U,U]<|kL h 6<|ko [vI ((p0.jQ.length:Nat):Int),vB (decide (Na<((p0.jQ.length:Nat):Int))),vB (decide (Na<((p0.jQ.length:Nat):Int)))]<|qI H (λabk H=>?_) λabk H=>?_
       ·refine cS (dT abk) [67,68] [vI Na,vB (decide (Na<400))]<|mH (dT abk) (vB (decide (Na<400)))<|kn<|dR H (λabL H=>?_) λabL H=>?_
        ·refine wk<|tn<|wq<|wb<|wq<|qg H λabG H=>fO H λabu abM H=>λ_ r=>fy [(b1,6,[.slice gf p0.jQ.length jP]),(bg gf,jY gf+Na.toNat*1,[vI (ag p0.jQ Na.toNat)]),(b1,2,[vI p0.cX])] [0,1,4,6] 10 h (λh=>⟨⟨h.cell 6 rfl,gE⟩,⟨sn.cell abG (h.dn 5) 0 rfl,gE⟩,⟨h.cell 2 rfl,gE⟩,gE⟩) λw h hd =>qq r<|gg hd 6 [(0,72,pA b1 6),(1,73,pA b1 6),(3,75,vI Na),(6,78,pA b1 2)]<|kx hd 0 5 2 rfl rfl<|λ_ r=>mJ hd 4 4 rfl (wn rfl) r (pA (bg gf) (jY gf+Na.toNat*1)) (hrun:=λw=>xW (k:=.i64) (E:=3) (cc:=jP) rfl (by kernel_rfl) (by kernel_rfl) rfl (by kernel_rfl) (by kernel_rfl) sn abG)<|?_;refine kx hd 1 3 5 rfl rfl<|kx hd 2 2 7 rfl rfl<|λ_ r=>eZ 8 rfl<|qq r<|eU (sK (H:=abM) (h:=h) :) λw h=>kn<|λ_ r=>xE<|gU 0 9 rfl (wn rfl) r (vI abu)<|?_;refine λ_ r=>ji<|qq r<|tn<|ks<|fO H λabc abN H=>ko [U,U]<|eU (Vu (H:=abN) (h:=h) :) λw h=>ko [U]<|kn<|ks<|ta H λvt abg Zi H=>ko [U,U,U,U]<|qh h.m4 λh=>eU (rB (H:=Zi) (h:=h) :) λw h=>ko [.tuple #[dY vt,vI abg],U,U]<|kN h (#[vI 0,vI 0,vI 0,vI 0,vI 0,vI 0]) 47 λabz w h=>kA h (fe abz vt) λw h=>ko [U]<|kn<|ks<|fO H λIo abO H=>ko [U]<|qh h.m5.m5.m5 λh=>WQ (Vt (H:=abO) (h:=h) :) λzu w h=>ko [U]<|kn<|ks<|ko [U,vI ((Io.length:Nat):Int),U,vI (wi (((Io.length:Nat):Int)-LF)),vI (wi (((Io.length:Nat):Int)-LF))]<|kn<|ks<|ko [U,vI ((Io.length:Nat):Int),vI ((Io.length:Nat):Int)]<|kn<|ks<|ko [U,vB (abg != 0),vB (abg != 0)]<|qI H (λZj H=>?_) λZj H=>?_
         ·refine cS (bne_eq_false_iff_eq.mpr Zj) [103,104] [vI (wi (((Io.length:Nat):Int)-LF)),vB (decide ((wi (((Io.length:Nat):Int)-LF))<0))]<|mF (bne_eq_false_iff_eq.mpr Zj) (vB (decide ((wi (((Io.length:Nat):Int)-LF))<0)))<|ko [vB (decide ((wi (((Io.length:Nat):Int)-LF))<0))]<|qI H (λabl H=>?_) λabl H=>?_
          ·refine bZ (dT abl) [107,108]<|mH (dT abl) (vB true)<|ko [U]<|bZ (rfl:true=true) [111,112]<|Jl true [113,114]<|bZ (rfl:true=true) [115]<|ko [U,U]<|bZ (rfl:true=true) [118,119,120,121]<|Jl true [122,123]<|bZ (rfl:true=true) [124]<|ko [U]<|kn<|λ_ r=>gb r (b:=true) rfl<|qq r<|ks<|ko [U]<|kn<|wr<|br<|tr<|tr<|br<|tr<|λ_ r=>ez (v:=vB false) rfl r (by kernel_rfl)<|?_;replace H:=jx1 H ZG;cases H;exact⟨rfl,h.se 7 []⟩
          refine cS (dF abl) [107,108] [vI (wi (((Io.length:Nat):Int)-LF)),vB (decide ((wi (((Io.length:Nat):Int)-LF))>1))]<|mF (dF abl) (vB (decide ((wi (((Io.length:Nat):Int)-LF))>1)))<|ko [vB (decide ((wi (((Io.length:Nat):Int)-LF))>1))]<|qI H (λZI H=>?_) λZI H=>?_
          ·refine bZ (dT ZI) [111,112]<|Jl true [113,114]<|bZ (dT ZI) [115]<|mH (dT ZI) (vB true)<|ko [U]<|bZ (rfl:true=true) [118,119,120,121]<|Jl true [122,123]<|bZ (rfl:true=true) [124]<|ko [U]<|kn<|λ_ r=>gb r (b:=true) rfl<|qq r<|ks<|ko [U]<|kn<|wr<|br<|tr<|tr<|br<|tr<|λ_ r=>ez (v:=vB false) rfl r (by kernel_rfl)<|?_;replace H:=jx1 H ZG;cases H;exact⟨rfl,h.se 7 []⟩
          refine cS (dF ZI) [111,112] [vB abc,vB abc]<|qI H (λZy H=>?_) λZy H=>?_
          ·refine cS (Zy) [113,114] [vI (wi (((Io.length:Nat):Int)-LF)),vB ((wi (((Io.length:Nat):Int)-LF)) != 0)]<|λ_ r=>Ov (pX r (dF ZI)) r (vB ((wi (((Io.length:Nat):Int)-LF)) != 0)) (Kb (b:=abc) rfl (by kernel_rfl) (Zy) (by kernel_rfl))<|?_;refine mF (dF ZI) (vB ((wi (((Io.length:Nat):Int)-LF)) != 0))<|ko [vB ((wi (((Io.length:Nat):Int)-LF)) != 0)]<|qI H (λR5 H=>?_) λR5 H=>?_
           ·refine cS (bne_eq_false_iff_eq.mpr R5) [118] [pA abz 2]<|λ_ r=>ld (pX r (bne_eq_false_iff_eq.mpr R5)) r (vI vt.aa6) ((h.pick 4).cell 2 rfl)<|?_;refine cS (bne_eq_false_iff_eq.mpr R5) [120,121] [vB (vt.aa6 != 0),vB (vt.aa6 != 0)]<|qI H (λabm H=>?_) λabm H=>?_
            ·refine bZ (bne_eq_false_iff_eq.mpr abm) [122,123]<|λ_ r=>Ov (pX r (bne_eq_false_iff_eq.mpr R5)) r (vB false) (Kc (b:=(vt.aa6 != 0)) rfl (by kernel_rfl) (bne_eq_false_iff_eq.mpr abm) (by kernel_rfl))<|?_;refine mF (bne_eq_false_iff_eq.mpr R5) (vB false)<|kn<|λ_ r=>ik r (b:=false) rfl<|qq r<|wk<|bn<|tn<|wl<|ko [U,vI (wi (Na+1)),vI (wi (Na+1))]<|kn<|?_;exact λ_ r=>⟨_,⟨((Io.length:Nat):Int),(wi (Na+1)),H,r.fj (h.se 7 [6,0,1,2,5])⟩,Nat.lt_succ_self _⟩
            refine cS (bne_iff_ne.mpr abm) [122,123] [vI (wi (((Io.length:Nat):Int)-LF)),vB ((wi (((Io.length:Nat):Int)-LF)) != 1)]<|λ_ r=>Ov (pX r (bne_eq_false_iff_eq.mpr R5)) r (vB ((wi (((Io.length:Nat):Int)-LF)) != 1)) (Kb (b:=(vt.aa6 != 0)) rfl (by kernel_rfl) (bne_iff_ne.mpr abm) (by kernel_rfl))<|?_;refine mF (bne_eq_false_iff_eq.mpr R5) (vB ((wi (((Io.length:Nat):Int)-LF)) != 1))<|kn<|oA H (λabP H=>?_) λabP H=>?_
            ·refine wk<|bn<|tn<|wl<|ko [U,vI (wi (Na+1)),vI (wi (Na+1))]<|kn<|?_;exact λ_ r=>⟨_,⟨((Io.length:Nat):Int),(wi (Na+1)),H,r.fj (h.se 7 [6,0,1,2,5])⟩,Nat.lt_succ_self _⟩
            refine ks<|ko [U]<|kn<|wr<|br<|tr<|tr<|br<|tr<|λ_ r=>ez (v:=vB false) rfl r (by kernel_rfl)<|?_;replace H:=jx1 H ZG;cases H;exact⟨rfl,h.se 7 []⟩
           refine bZ (bne_iff_ne.mpr R5) [118,119,120,121]<|Jl true [122,123]<|bZ (bne_iff_ne.mpr R5) [124]<|mH (bne_iff_ne.mpr R5) (vB true)<|kn<|λ_ r=>gb r (b:=true) rfl<|qq r<|ks<|ko [U]<|kn<|wr<|br<|tr<|tr<|br<|tr<|λ_ r=>ez (v:=vB false) rfl r (by kernel_rfl)<|?_;replace H:=jx1 H ZG;cases H;exact⟨rfl,h.se 7 []⟩
          refine bZ (bF Zy) [113,114]<|λ_ r=>Ov (pX r (dF ZI)) r (vB false) (Kc (b:=abc) rfl (by kernel_rfl) (bF Zy) (by kernel_rfl))<|?_;refine mF (dF ZI) (vB false)<|ko [U]<|cS (rfl:false=false) [118] [pA abz 2]<|q9 (rfl:false=false) (h.pick 4) 2<|cS (rfl:false=false) [120,121] [vB (vt.aa6 != 0),vB (vt.aa6 != 0)]<|qI H (λabn H=>?_) λabn H=>?_
          ·refine bZ (bne_eq_false_iff_eq.mpr abn) [122,123]<|λ_ r=>Ov (pX r (c:=false) rfl) r (vB false) (Kc (b:=(vt.aa6 != 0)) rfl (by kernel_rfl) (bne_eq_false_iff_eq.mpr abn) (by kernel_rfl))<|?_;refine ko [U]<|kn<|λ_ r=>ik r (b:=false) rfl<|qq r<|wk<|bn<|tn<|wl<|ko [U,vI (wi (Na+1)),vI (wi (Na+1))]<|kn<|?_;exact λ_ r=>⟨_,⟨((Io.length:Nat):Int),(wi (Na+1)),H,r.fj (h.se 7 [6,0,1,2,5])⟩,Nat.lt_succ_self _⟩
          refine cS (bne_iff_ne.mpr abn) [122,123] [vI (wi (((Io.length:Nat):Int)-LF)),vB ((wi (((Io.length:Nat):Int)-LF)) != 1)]<|λ_ r=>Ov (pX r (c:=false) rfl) r (vB ((wi (((Io.length:Nat):Int)-LF)) != 1)) (Kb (b:=(vt.aa6 != 0)) rfl (by kernel_rfl) (bne_iff_ne.mpr abn) (by kernel_rfl))<|?_;refine ko [vB ((wi (((Io.length:Nat):Int)-LF)) != 1)]<|kn<|oA H (λabQ H=>?_) λabQ H=>?_
          ·refine wk<|bn<|tn<|wl<|ko [U,vI (wi (Na+1)),vI (wi (Na+1))]<|kn<|?_;exact λ_ r=>⟨_,⟨((Io.length:Nat):Int),(wi (Na+1)),H,r.fj (h.se 7 [6,0,1,2,5])⟩,Nat.lt_succ_self _⟩
          refine ks<|ko [U]<|kn<|wr<|br<|tr<|tr<|br<|tr<|λ_ r=>ez (v:=vB false) rfl r (by kernel_rfl)<|?_;replace H:=jx1 H ZG;cases H;exact⟨rfl,h.se 7 []⟩
         refine bZ (bne_iff_ne.mpr Zj) [103,104]<|mH (bne_iff_ne.mpr Zj) (vB true)<|ko [U]<|bZ (rfl:true=true) [107,108]<|ko [U,U]<|bZ (rfl:true=true) [111,112]<|Jl true [113,114]<|bZ (rfl:true=true) [115]<|ko [U,U]<|bZ (rfl:true=true) [118,119,120,121]<|Jl true [122,123]<|bZ (rfl:true=true) [124]<|ko [U]<|kn<|λ_ r=>gb r (b:=true) rfl<|qq r<|ks<|ko [U]<|kn<|wr<|br<|tr<|tr<|br<|tr<|λ_ r=>ez (v:=vB false) rfl r (by kernel_rfl)<|?_;replace H:=jx1 H ZG;cases H;exact⟨rfl,h.se 7 []⟩
        refine wx<|te<|te<|bh<|tn<|?_;exact λ_ r=>⟨(),LF,gH H,r.fj (h.se 5 [0])⟩
       refine bZ (dF abk) [67,68]<|mF (dF abk) (vB false)<|kn<|λ_ r=>ik r (b:=false) rfl<|qq r<|wx<|te<|te<|bh<|tn<|?_;exact λ_ r=>⟨(),LF,gH H,r.fj (h.se 5 [0])⟩
     clear h r;rintro _ a w ⟨ZH,rfl,j,r,h⟩;replace H:=jk1 ZG;refine qq r<|ks<|fO H λabv abR H=>ko [U]<|eU (mN (H:=abR) (h:=h) :) λw h=>ko [vB (abv != 0),vB (abv != 0)]<|qI H (λabo H=>?_) λabo H=>?_
     ·refine cS (bne_eq_false_iff_eq.mpr abo) [130,131] [vI ZH,vB (decide (ZH>0))]<|mF (bne_eq_false_iff_eq.mpr abo) (vB (decide (ZH>0)))<|ko [vB (decide (ZH>0))]<|qI H (λaba H=>?_) λaba H=>?_
      ·refine bZ (dT aba) [134,135,136,137,138]<|mH (dT aba) (vB true)<|ko [U]<|bZ (rfl:true=true) [141,142,143]<|ko [U,U]<|kn<|wr<|?_;cases H;exact gu (h.se 1 [])
      refine cS (dF aba) [134,135] [pA b1 6,pA b1 6]<|q9 (dF aba) h 6<|cS (dF aba) [137,138] [vI ((p0.jQ.length:Nat):Int),vB (((p0.jQ.length:Nat):Int)==0)]<|mF (dF aba) (vB (((p0.jQ.length:Nat):Int)==0))<|ko [vB (((p0.jQ.length:Nat):Int)==0)]<|qI H (λabb H=>?_) λabb H=>?_
      ·refine bZ (beq_iff_eq.mpr abb) [141,142,143]<|mH (beq_iff_eq.mpr abb) (vB true)<|ko [U]<|kn<|wr<|?_;cases H;exact gu (h.se 1 [])
      refine λ_ r=>tK (pX r (bN abb)) r (.agg #[.slice fK p0.mG.length fT,.slice ng p0.Dh.length nP,vI p0.cX,vI p0.gw,vI p0.gB,vI p0.jf,.slice gf p0.jQ.length jP,.slice kz p0.nD.length k6]) (cs:=[.slice fK p0.mG.length fT,.slice ng p0.Dh.length nP,vI p0.cX,vI p0.gw,vI p0.gB,vI p0.jf,.slice gf p0.jQ.length jP,.slice kz p0.nD.length k6]) (h.held 0 rfl)<|?_;refine fO H λabh abS H=>Tf (bN abb) (Po (fK:=fK) (fT:=fT) (sk:=(xw.up 1 sk)) (ng:=ng) (nP:=nP) (w4:=(cu.up 1 w4)) (gf:=gf) (jP:=jP) (sn:=(cu.up 1 sn)) (kz:=kz) (k6:=k6) (w5:=(cu.up 1 w5)) (p9:=p9) (H:=abS) (h:=h) :) λw h=>cS (bN abb) [143] [vB (!abh)]<|mF (bN abb) (vB (!abh))<|ko [vB (!abh)]<|kn<|wr<|?_;cases H;exact gu (h.se 1 [])
     refine bZ (bne_iff_ne.mpr abo) [130,131]<|mH (bne_iff_ne.mpr abo) (vB true)<|ko [U]<|bZ (rfl:true=true) [134,135,136,137,138]<|ko [U,U]<|bZ (rfl:true=true) [141,142,143]<|ko [U,U]<|kn<|wr<|?_;cases H;exact gu (h.se 1 [])
    refine ks<|ko [U]<|kn<|wr<|tr<|?_;cases H;exact gu (h.se 4 [])
   refine ks<|ko [U]<|kn<|wr<|tr<|?_;cases H;exact gu (h.se 4 [])
 | none =>
  refine eU (Dk (H:=e6) (h:=h) :) λw h=>ko [.tuple #[pN,vI r5],U,U,U,U]<|kn<|ks<|ko [U]<|λ_ r=>tK (wn rfl) r (.agg #[.slice fK p0.mG.length fT]) (cs:=[.slice fK p0.mG.length fT]) ⟨h.cell 0 rfl,gE⟩<|?_;refine ko [U]<|kL h 1<|ko [U]<|kL h 2<|ko [U]<|λ_ r=>tK (wn rfl) r (.agg #[vI p0.gw,vI p0.gB,vI p0.jf]) (cs:=[vI p0.gw,vI p0.gB,vI p0.jf]) (h.held 3 rfl)<|?_;refine fO H λzy abT H=>eU (pY (Jt:=ng) (Ju:=nP) (Ky:=(cu.up 1 w4)) (bG:=fK) (cr:=fT) (aZ:=(xw.up 1 sk)) (aM:=p9) (H:=abT) (h:=h) :) λw h=>ko [U]<|kn<|ks<|ko [U,U,U]<|λ_ r=>tK (wn rfl) r (.agg #[.slice fK p0.mG.length fT]) (cs:=[.slice fK p0.mG.length fT]) ⟨h.cell 0 rfl,gE⟩<|?_;refine ko [U]<|kL h 1<|ko [U]<|kL h 2<|ko [U]<|λ_ r=>tK (wn rfl) r (.agg #[vI p0.gw,vI p0.gB,vI p0.jf]) (cs:=[vI p0.gw,vI p0.gB,vI p0.jf]) (h.held 3 rfl)<|?_;cases H
end
end Mo
end
section
namespace Mo
open Go SL GX
section
variable {K:Nat}
abbrev ar(sz:Int)(c:List Int)(l:List be)(a:Int)(w:Bool):ah:=⟨sz,(c.length:Nat),c,l,a,w⟩
def wl(w:Bool)(l xs:List be):List be:=if w then l++xs else l
theorem vQ(w:Bool)(l xs ys:List be):wl w (wl w l xs) ys=wl w l (xs++ys):=by cases w<;>simp[wl]
theorem EU(w:Bool)(l:List be):wl w l []=l:=by cases w<;>simp[wl]
theorem uy(w:Bool)(l xs:List be):(wl w l xs).length≤l.length+xs.length:=by cases w<;>simp[wl]
theorem EV{sz:Int}{m:Int}{c:List Int}{l:List be}{a:Int}{w:Bool}(hl:l.length≤2000000000)(k d x y:Int)(ok:Bool) :
 fl ⟨sz,m,c,l,a,w⟩ k d x y ok=some ⟨sz,m,c,wl w l [⟨a,k,d,x,y,ok⟩],a,w⟩:=by
 unfold fl wl
 cases w
 ·rfl
 ·rw[fQ rfl,fQ (by show(l.length+1)*48≤_;omega)];rfl
theorem EW{sz:Int}{c:List Int}{l:List be}{a:Int}{w:Bool}(hl:l.length≤2000000000)(hs:sz≤2000000000){n:Int}(h1:1≤n)(hn:(c.length:Int)+n≤sz) :
 eV (ar sz c l a w) n=some (((c.length:Nat):Int),0,ar sz (c++List.replicate n.toNat 0) (wl w l [⟨a,4,(c.length:Nat),n,0,true⟩]) a w):=by
 unfold eV j8 mW
 rw[ia,fh (by omega),eM (by show -9223372036854775808≤sz-(c.length:Nat)∧sz-(c.length:Nat)≤9223372036854775807;omega),fh (by show ¬n>sz-(c.length:Nat);omega),aE,fQ rfl,ej,
  fQ ⟨by omega,by show(c.length+n.toNat)*8≤_;omega⟩,EV hl,aE,eM (by show -9223372036854775808≤((c.length:Nat):Int)+n∧((c.length:Nat):Int)+n≤9223372036854775807;omega)]
 simp only[ar,List.length_append,List.length_replicate]
 rw[show((c.length+n.toNat:Nat):Int)=((c.length:Nat):Int)+n by omega]
theorem EX{sz:Int}{c:List Int}{l:List be}{a:Int}{w:Bool}(hs:sz≤2000000000)(hs0:0≤sz)(hc:c.length≤2000000000){n:Int}(h1:1≤n)(hn:¬(c.length:Int)+n≤sz) :
 eV (ar sz c l a w) n=some (0,22,ar sz c l a w):=by
 unfold eV j8
 rw[ia,fh (by omega),eM (by show -9223372036854775808≤sz-(c.length:Nat)∧sz-(c.length:Nat)≤9223372036854775807;omega),fQ (by show n>sz-(c.length:Nat);omega),aE,fh (by decide)]
theorem Nc{sz:Int}{c:List Int}{l:List be}{a:Int}{w:Bool}{d:Int}(h0:0≤d)(h1:d<(c.length:Nat)):gi (ar sz c l a w) d=some false:=by
 unfold gi nN
 rw[fQ h0,aE];simp[h1]
theorem Ip{sz:Int}{c:List Int}{l:List be}{a:Int}{w:Bool}(hl:l.length≤2000000000){d v:Int}(h0:0≤d)(h1:d<(c.length:Nat)) :
 di (ar sz c l a w) d v=some (0,ar sz (c.set d.toNat v) (wl w l [⟨a,1,d,v,0,true⟩]) a w):=by
 unfold di
 rw[Nc h0 h1,aE,fh (by decide),fQ ⟨h0,h1⟩,EV hl,aE]
 simp only[ar,List.length_set]
theorem Sc{sz:Int}{c:List Int}{l:List be}{a:Int}{w:Bool}(hl:l.length≤2000000000){d v:Int}(h0:0≤d)(h1:d<(c.length:Nat)) :
 gN (ar sz c l a w) d v=some (wi (ag c d.toNat+v),0,ar sz (c.set d.toNat (wi (ag c d.toNat+v))) (wl w l [⟨a,3,d,v,wi (ag c d.toNat+v),true⟩]) a w):=by
 unfold gN
 have h2:d.toNat<c.length:=by omega
 rw[Nc h0 h1,aE,fh (by decide),fQ ⟨h0,h1⟩,fQ ⟨h0,by rw[List.length_set];exact h1⟩,EV hl,aE,fQ ⟨h0,by show d<(((c.set d.toNat _).length:Nat):Int);rw[List.length_set];exact h1⟩]
 simp only[ar,List.length_set]
 rw[pV h2]
def nA(sz:Int):List be→List be
 | []=>[]
 | x::xs=>if x.aa6=4∧x.Addr+x.A>sz then []else x::nA sz xs
theorem AQ{sz:Int}:∀(xs ys:List be),(∀x∈xs,x.aa6≠4)→nA sz (xs++ys)=xs++nA sz ys
 | [],ys,_=>rfl
 | x::xs,ys,h=>by
  rw[List.cons_append,nA,fh (λe=>h x (by simp) e.1),AQ xs ys (λy hy=>h y (List.mem_cons_of_mem _ hy))];rfl
theorem GC{sz:Int}:∀(xs ys:List be),nA sz xs=xs→nA sz (xs++ys)=xs++nA sz ys
 | [],ys,_=>rfl
 | x::xs,ys,h=>by
  rw[nA]at h
  by_cases e:x.aa6=4∧x.Addr+x.A>sz
  ·rw[fQ e]at h;exact absurd h (by simp)
  ·rw[fh e]at h
   rw[List.cons_append,nA,fh e,GC xs ys (List.cons.inj h).2];rfl
def EY(a:Int)(i:Nat):Nat→List be
 | 0=>[]
 | d+1=>⟨a,1,2+10*(i:Int),1,0,true⟩::EY a (i+1) d
theorem GD{a:Int}:∀(d i:Nat),∀x∈EY a i d,x.aa6≠4
 | 0,i,x,h=>by simp[EY]at h
 | d+1,i,x,h=>by
  rcases List.mem_cons.1 h with rfl | h
  ·show(1:Int)≠4;decide
  ·exact GD d (i+1) x h
theorem JM{a:Int}:∀(d i:Nat),(EY a i d).length=d
 | 0,i=>rfl
 | d+1,i=>by rw[EY,List.length_cons,JM d (i+1)]
def Bw(a first:Int):Int→Nat→List be
 | _,0=>[]
 | ag,d+1=>⟨a,4,ag,4+first,0,true⟩::⟨a,1,ag+2,ag+3,0,true⟩::⟨a,1,ag+3,first,0,true⟩::Bw a first (ag+(4+first)) d
theorem JN{a first:Int}:∀(d:Nat) (ag:Int),(Bw a first ag d).length=3*d
 | 0,_=>rfl
 | d+1,_=>by rw[Bw,List.length_cons,List.length_cons,List.length_cons,JN d];omega
structure Sd(F first most:Int):Prop where
 f1:1≤F
 f2:F≤4096
 a1:1≤first
 a2:first≤most
 m2:most≤4096
theorem K8(p:aO)(args:List Int)(n:Int)(l:cY)(hK:3000<K) :∃e:Int,jK K p args n l=some e∧ny K p args n l=some e∧(e=0∨e=110∨e=111∨e=60∨e=61)∧(e=0→Valid p∧(args.length:Int)=(ag p.aq 0).aU∧1≤n∧n≤64∧Sd l.bO l.dk l.iU):=by
 obtain⟨x,e1,e2,e3⟩:=MU (K:=K) p hK
 unfold jK ny
 rw[e1,e2,aE,aE]
 by_cases hx:x.Kp=0
 ·have hv:=e3 hx
  have:=hv.n1
  have hi:bT (0:Int) p.aq.length:=⟨by decide,by omega⟩
  rw[fQ hx,fQ hx,fQ hi,fQ hi]
  by_cases ha:((args.length:Nat):Int)=(ag p.aq 0).aU
  ·rw[fQ ha,fQ ha]
   unfold qw hU qx
   by_cases h1:n<1
   ·rw[fQ h1,fh (show ¬n≥1 by omega)];exact⟨110,rfl,rfl,by simp,λh=>absurd h (by decide)⟩
   ·rw[fh h1,fQ (show n≥1 by omega)]
    by_cases h2:n>64
    ·rw[fQ h2,decide_eq_false (show ¬n≤64 by omega)];exact⟨110,rfl,rfl,by simp,λh=>absurd h (by decide)⟩
    ·rw[fh h2,decide_eq_true (show n≤64 by omega),aE,fQ rfl]
     by_cases g1:l.bO<1
     ·rw[fQ g1,fh (show ¬l.bO≥1 by omega)];exact⟨111,rfl,rfl,by simp,λh=>absurd h (by decide)⟩
     rw[fh g1,fQ (show l.bO≥1 by omega)]
     by_cases g2:l.bO>4096
     ·rw[fQ g2,fh (show ¬l.bO≤4096 by omega)];exact⟨111,rfl,rfl,by simp,λh=>absurd h (by decide)⟩
     rw[fh g2,fQ (show l.bO≤4096 by omega)]
     by_cases g3:l.dk<1
     ·rw[fQ g3,fh (show ¬(1:Int)≤l.dk by omega)];exact⟨111,rfl,rfl,by simp,λh=>absurd h (by decide)⟩
     rw[fh g3,fQ (show(1:Int)≤l.dk by omega)]
     by_cases g4:l.dk>l.iU
     ·rw[fQ g4,fh (show ¬l.dk≤l.iU by omega)];exact⟨111,rfl,rfl,by simp,λh=>absurd h (by decide)⟩
     rw[fh g4,fQ (show l.dk≤l.iU by omega)]
     by_cases g5:l.iU>4096
     ·rw[decide_eq_true g5,decide_eq_false (show ¬l.iU≤4096 by omega)];exact⟨111,rfl,rfl,by simp,λh=>absurd h (by decide)⟩
     ·rw[decide_eq_false g5,decide_eq_true (show l.iU≤4096 by omega)]
      exact⟨0,rfl,rfl,.inl rfl,λ_=>⟨hv,ha,by omega,by omega,⟨by omega,by omega,by omega,by omega,by omega⟩⟩⟩
  ·rw[fh ha,fh ha];exact⟨61,rfl,rfl,by simp,λh=>absurd h (by decide)⟩
 ·rw[fh hx,fh hx];exact⟨60,rfl,rfl,by simp,λh=>absurd h (by decide)⟩
structure CQ(N F W:Nat)(first:Int)(c:List Int):Prop where
 len:c.length=4+10*F+N+N*W
 c0:ag c 0=0
 c1:ag c 1=1
 fr:∀f,f<F→∀r,r<10→ag c (2+10*f+r)=if r=0 then 1 else 0
 Vw:∀r,r<2+N→ag c (2+10*F+r)=0
 dq:∀i,i<N→∀r,r<W→ag c (4+10*F+N+i*W+r)=if r=2 then((4+10*F+N+i*W+3:Nat):Int)else if r=3 then first else 0
theorem Se{x y:List Int}(hl:x.length=y.length)(he:∀i,i<x.length→ag x i=ag y i):x=y:=by
 refine List.ext_getElem hl λi h1 h2 => ?_
 have:=he i h1
 unfold ag at this
 rw[List.getD_eq_getElem?_getD,List.getD_eq_getElem?_getD,List.getElem?_eq_getElem h1,List.getElem?_eq_getElem h2]at this
 exact this
theorem CQ.eq{N F W:Nat}(hW:0<W){first:Int}{c c':List Int}(h:CQ N F W first c)(h':CQ N F W first c'):c=c':=by
 refine Se (by rw[h.len,h'.len]) λx hx => ?_
 rw[h.len]at hx
 by_cases e0:x=0
 ·subst e0;rw[h.c0,h'.c0]
 by_cases e1:x=1
 ·subst e1;rw[h.c1,h'.c1]
 by_cases e2:x<2+10*F
 ·rw[show x=2+10*((x-2)/10)+(x-2)%10 by omega,h.fr _ (by omega) _ (by omega),h'.fr _ (by omega) _ (by omega)]
 by_cases e3:x<4+10*F+N
 ·rw[show x=2+10*F+(x-(2+10*F)) by omega,h.Vw _ (by omega),h'.Vw _ (by omega)]
 have hd:=Nat.div_add_mod (x-(4+10*F+N)) W
 have hm:=Nat.mod_lt (x-(4+10*F+N)) hW
 have hi:(x-(4+10*F+N))/W<N:=by rw[Nat.div_lt_iff_lt_mul hW];omega
 rw[Nat.mul_comm]at hd
 rw[show x=4+10*F+N+(x-(4+10*F+N))/W*W+(x-(4+10*F+N))%W by omega,h.dq _ hi _ hm,h'.dq _ hi _ hm]
end
end Mo
end
section
namespace Mo
open Go SL GX
section
variable {K:Nat}
theorem w6{l:List Int}{i k:Nat}{x:Int}(h:i<l.length):ag (l.set i x) k=if k=i then x else ag l k:=oe h
theorem Nd{sz a:Int}{w:Bool}{F:Nat}(hF:F≤4096):∀(d k i:Nat) (c:List Int) (l:List be),i+d=F→d<k→2+10*F≤c.length→l.length+d≤1000000000→
 ∃c',iE K (F:Int) 1 k (ar sz c l a w) (i:Int)=some (⟨1,F⟩,0,ar sz c' (wl w l (EY a i d)) a w)∧c'.length=c.length∧(∀f,i≤f→f<F→ag c' (2+10*f)=1)∧(∀x,(∀f,i≤f→f<F→x≠2+10*f)→ag c' x=ag c x)
 | d,k,i,c,l,hd,hk,hc,hl=>by
  obtain⟨k,rfl⟩ :∃m,k=m+1:=⟨k-1,by omega⟩
  rw[iE]
  by_cases hi:i<F
  ·obtain⟨d,rfl⟩ :∃m,d=m+1:=⟨d-1,by omega⟩
   unfold fI
   rw[fQ (by omega),eM (x:=(1:Int)+1) (by omega),eM (x:=(i:Int)*10) (by omega),eM (by omega),aE,Ip (by omega) (by omega) (by omega),ej,fQ rfl,Ds (by omega)]
   have e:((1:Int)+1+(i:Int)*10).toNat=2+10*i:=by omega
   rw[e]
   have h1:=uy w l [(⟨a,1,1+1+(i:Int)*10,1,0,true⟩:be)]
   simp only[List.length_singleton]at h1
   obtain⟨c',r1,r2,r3,r4⟩:=Nd hF d k (i+1) (c.set (2+10*i) 1) (wl w l [⟨a,1,1+1+(i:Int)*10,1,0,true⟩]) (by omega) (by omega) (by rw[List.length_set];exact hc) (by omega)
   refine⟨c',?_,by rw[r2,List.length_set],λf h1 h2 => ?_,λx hx => ?_⟩
   ·rw[r1,vQ,EY,show(1:Int)+1+(i:Int)*10=2+10*(i:Int) by omega];rfl
   ·by_cases e:f=i
    ·subst e;rw[r4 _ (λg h3 h4=>by omega),w6 (by omega),fQ rfl]
    ·exact r3 f (by omega) h2
   ·rw[r4 x (λf h3 h4=>hx f (by omega) h4),w6 (by omega),fh (hx i (Nat.le_refl _) hi)]
  ·rw[fh (by omega)]
   obtain rfl:d=0:=by omega
   exact⟨c,by rw[EY,EU],rfl,λf h1 h2=>by omega,λ_ _=>rfl⟩
def Oc(B W:Nat)(most:Int)(i:Nat):Nat→List aI
 | 0=>[]
 | d+1=>⟨((B+i*W:Nat):Int),most⟩::Oc B W most (i+1) d
theorem JO{B W:Nat}{most:Int}:∀(d i:Nat),(Oc B W most i d).length=d
 | 0,i=>rfl
 | d+1,i=>by rw[Oc,List.length_cons,JO d (i+1)]
theorem Nf{B W:Nat}{most:Int}:∀(d i j:Nat),j<d→ag (Oc B W most i d) j=⟨((B+(i+j)*W:Nat):Int),most⟩
 | d+1,i,0,_=>by rw[Oc];rfl
 | d+1,i,j+1,h=>by
  have:=Nf (B:=B) (W:=W) (most:=most) d (i+1) j (by omega)
  rw[show i+1+j=i+(j+1) by omega]at this
  exact this
theorem ZL{sz a:Int}{w:Bool}{jV:cY}(hl:Sd jV.bO jV.dk jV.iU)(hs:sz≤2000000000){c:List Int}{l:List be}(hc:c.length≤1000000000)(hll:l.length≤1000000000) :
 ((c.length:Int)+(4+jV.dk)≤sz→mP (ar sz c l a w) jV.dk jV.iU=some (⟨((c.length:Nat):Int),jV.iU⟩,0,ar sz (((c++List.replicate (4+jV.dk).toNat 0).set (c.length+2) ((c.length:Nat)+3)).set (c.length+3) jV.dk)
  (wl w l [⟨a,4,(c.length:Nat),4+jV.dk,0,true⟩,⟨a,1,(c.length:Nat)+2,(c.length:Nat)+3,0,true⟩,⟨a,1,(c.length:Nat)+3,jV.dk,0,true⟩]) a w))∧
 (0≤sz→¬(c.length:Int)+(4+jV.dk)≤sz→mP (ar sz c l a w) jV.dk jV.iU=some (⟨0,0⟩,22,ar sz c l a w)):=by
 have h1:=hl.a1
 have h2:=hl.a2
 have h3:=hl.m2
 unfold mP sV
 rw[fQ h1,fQ h2,decide_eq_true h3,aE,fQ rfl,eM (x:=(4:Int)+jV.dk) (by omega)]
 refine⟨λhf => ?_,λh0 hf => ?_⟩
 ·have k1:=uy w l [(⟨a,4,(c.length:Nat),4+jV.dk,0,true⟩:be)]
  simp only[List.length_singleton]at k1
  rw[EW (by omega) hs (by omega) hf,cW,fQ rfl,eM (x:=((c.length:Nat):Int)+2) (by omega),eM (x:=((c.length:Nat):Int)+3) (by omega),Ip (by omega) (by omega) (by rw[List.length_append,List.length_replicate];omega),ej,fQ rfl]
  have k2:=uy w (wl w l [(⟨a,4,(c.length:Nat),4+jV.dk,0,true⟩:be)]) [(⟨a,1,(c.length:Nat)+2,(c.length:Nat)+3,0,true⟩:be)]
  simp only[List.length_singleton]at k2
  rw[Ip (by omega) (by omega) (by rw[List.length_set,List.length_append,List.length_replicate];omega),ej,fQ rfl,vQ,vQ,show(((c.length:Nat):Int)+2).toNat=c.length+2 by omega,show(((c.length:Nat):Int)+3).toNat=c.length+3 by omega]
  rfl
 ·rw[EX hs h0 (by omega) (by omega) hf,cW,fh (by decide)]
theorem Vx{sz a:Int}{w:Bool}{jV:cY}(hl:Sd jV.bO jV.dk jV.iU)(hs:sz≤1000000000)(hs0:0≤sz){N B W:Nat}(hN:N≤64)(hB:B≤100000)(hW:(W:Int)=4+jV.dk){p0:ai}{gV:Int}{n6:aN}{r32:dm}:∀(d k i:Nat) (c:List Int) (l:List be) (D:List aI),i+d=N→d<k→c.length=B+i*W→D.length=i→l.length+3*d≤1000000000→
 (((B+N*W:Nat):Int)≤sz→∃c',iF K p0 (N:Int) jV gV n6 r32 k (ar sz c l a w) D (i:Int)=some (.inl (ar sz c' (wl w l (Bw a jV.dk (c.length:Nat) d)) a w,D++Oc B W jV.iU i d))∧nA sz (Bw a jV.dk (c.length:Nat) d)=Bw a jV.dk (c.length:Nat) d∧c'.length=B+N*W∧(∀x,x<c.length→ag c' x=ag c x)∧
   (∀j,i≤j→j<N→∀r,r<W→ag c' (B+j*W+r)=if r=2 then((B+j*W+3:Nat):Int)else if r=3 then jV.dk else 0))∧
 (¬((B+N*W:Nat):Int)≤sz→∃X c',iF K p0 (N:Int) jV gV n6 r32 k (ar sz c l a w) D (i:Int)=some (.inr (22,X,ar sz c' (wl w l (nA sz (Bw a jV.dk (c.length:Nat) d))) a w))∧(∀ys,nA sz (Bw a jV.dk (c.length:Nat) d++ys)=nA sz (Bw a jV.dk (c.length:Nat) d))∨((B+i*W:Nat):Int)>sz∧d=0)
 | d,k,i,c,l,D,hd,hk,hc,hD,hll=>by
  obtain⟨k,rfl⟩ :∃m,k=m+1:=⟨k-1,by omega⟩
  have h1:=hl.a1
  have h2:=hl.a2
  have h3:=hl.m2
  have hiW:i*W≤N*W:=Nat.mul_le_mul_right W (by omega)
  have hNW:N*W≤64*4100:=Nat.mul_le_mul hN (by omega)
  rw[iF]
  by_cases hi:i<N
  ·obtain⟨d,rfl⟩ :∃m,d=m+1:=⟨d-1,by omega⟩
   have hsW:(i+1)*W=i*W+W:=Nat.succ_mul i W
   have aaT:(i+1)*W≤N*W:=Nat.mul_le_mul_right W (by omega)
   have Od:(((c++List.replicate (4+jV.dk).toNat (0:Int)).set (c.length+2) ((c.length:Nat)+3)).set (c.length+3) jV.dk).length=B+(i+1)*W:=by
    rw[List.length_set,List.length_set,List.length_append,List.length_replicate];omega
   rw[fQ (by omega)]
   obtain⟨n1,n2⟩:=ZL (a:=a) (w:=w) hl (by omega:sz≤2000000000) (c:=c) (l:=l) (by omega) (by omega)
   by_cases hf:(c.length:Int)+(4+jV.dk)≤sz
   ·rw[n1 hf,cW,fQ rfl,fQ (by omega),Ds (by omega)]
    have Pp:∀ys,nA sz ((⟨a,4,(c.length:Nat),4+jV.dk,0,true⟩:be)::(⟨a,1,(c.length:Nat)+2,(c.length:Nat)+3,0,true⟩:be)::(⟨a,1,(c.length:Nat)+3,jV.dk,0,true⟩:be)::ys)=(⟨a,4,(c.length:Nat),4+jV.dk,0,true⟩:be)::(⟨a,1,(c.length:Nat)+2,(c.length:Nat)+3,0,true⟩:be)::(⟨a,1,(c.length:Nat)+3,jV.dk,0,true⟩:be)::nA sz ys:=λys=>by
     rw[nA,fh (λh=>absurd h.2 (by show ¬((c.length:Nat):Int)+(4+jV.dk)>sz;omega)),nA,fh (λh=>absurd h.1 (by show ¬(1:Int)=4;decide)),nA,fh (λh=>absurd h.1 (by show ¬(1:Int)=4;decide))]
    have k1:=uy w l [(⟨a,4,(c.length:Nat),4+jV.dk,0,true⟩:be),(⟨a,1,(c.length:Nat)+2,(c.length:Nat)+3,0,true⟩:be),(⟨a,1,(c.length:Nat)+3,jV.dk,0,true⟩:be)]
    simp only[List.length_cons,List.length_nil]at k1
    obtain⟨Rk,Rl⟩:=Vx hl hs hs0 hN hB hW (p0:=p0) (gV:=gV) (n6:=n6) (r32:=r32) (a:=a) (w:=w) d k (i+1) _ (wl w l [(⟨a,4,(c.length:Nat),4+jV.dk,0,true⟩:be),(⟨a,1,(c.length:Nat)+2,(c.length:Nat)+3,0,true⟩:be),(⟨a,1,(c.length:Nat)+3,jV.dk,0,true⟩:be)]) (D++[⟨((c.length:Nat):Int),jV.iU⟩]) (by omega) (by omega) Od (by simp[hD]) (by omega)
    have el:((B+(i+1)*W:Nat):Int)=((c.length:Nat):Int)+(4+jV.dk):=by omega
    rw[Od,el]at Rk Rl
    refine⟨λhfit => ?_,λhno => ?_⟩
    ·obtain⟨c',r1,r0,r2,r3,r4⟩:=Rk hfit
     refine⟨c',?_,?_,r2,λx hx => ?_,λj h5 h6 r h7 => ?_⟩
     ·rw[r1,vQ,Bw,Oc,List.append_assoc,hc];rfl
     ·rw[Bw,Pp,r0]
     ·rw[r3 x (by omega),w6 (by rw[List.length_set,List.length_append,List.length_replicate];omega),fh (by omega),w6 (by rw[List.length_append,List.length_replicate];omega),fh (by omega),oE hx]
     ·by_cases e:j=i
      ·subst e
       rw[r3 _ (by omega),←hc,w6 (by rw[List.length_set,List.length_append,List.length_replicate];omega),w6 (by rw[List.length_append,List.length_replicate];omega),su (by omega),show c.length+r-c.length=r by omega,zn (by omega)]
       by_cases e2:r=2
       ·subst e2;rw[fh (by omega),fQ rfl,fQ rfl];omega
       ·by_cases e3:r=3
        ·subst e3;rw[fQ rfl,fh (by omega),fQ rfl]
        ·rw[fh (by omega),fh (by omega),fh e2,fh e3]
      ·exact r4 j (by omega) h6 r h7
    ·obtain⟨X,c',⟨r1,r2⟩ | r1⟩:=Rl hno
     ·exact⟨X,c',.inl ⟨by rw[r1,vQ,Bw,Pp];rfl,λys=>by rw[Bw,List.cons_append,List.cons_append,List.cons_append,Pp,Pp,r2 ys]⟩⟩
     ·exfalso;omega
   ·have e2:=n2 hs0 hf
    refine⟨λhfit=>by exfalso;omega,λhno => ?_⟩
    rw[e2,cW,fh (by decide)]
    have e3:wl w l (nA sz (Bw a jV.dk (c.length:Nat) (d+1)))=l:=by
     rw[Bw,nA,fQ ⟨rfl,by show((c.length:Nat):Int)+(4+jV.dk)>sz;omega⟩,EU]
    rw[e3]
    exact⟨_,c,.inl ⟨rfl,λys=>by rw[Bw,List.cons_append,nA,nA,fQ ⟨rfl,by show((c.length:Nat):Int)+(4+jV.dk)>sz;omega⟩,fQ ⟨rfl,by show((c.length:Nat):Int)+(4+jV.dk)>sz;omega⟩]⟩⟩
  ·obtain rfl:d=0:=by omega
   obtain rfl:i=N:=by omega
   rw[fh (by omega)]
   refine⟨λhfit=>⟨c,by rw[Bw,EU,Oc,List.append_nil],rfl,hc,λ_ _=>rfl,λj h5 h6=>by omega⟩,λhno=>⟨p0,c,.inr ⟨by omega,rfl⟩⟩⟩
def pF(a:Int)(N F:Nat)(first:Int):List be:=
 [⟨a,4,0,1,0,true⟩,⟨a,4,1,1+10*(F:Int),0,true⟩]++EY a 0 F++(⟨a,4,2+10*(F:Int),2+(N:Int),0,true⟩::Bw a first (4+10*F+N:Nat) N++[⟨a,3,1,1,1,true⟩])
theorem Iq{sz a:Int}{w:Bool}{F:Nat}(h1:1≤F)(h2:F≤4096)(hs:sz≤1000000000)(hs0:0≤sz)(hK:5000<K){l:List be}(hl:l.length≤100) :
 ((2+10*F:Int)≤sz→∃c,lX K (ar sz [0] l a w) (F:Int)=some (⟨1,F⟩,0,ar sz c (wl w l (⟨a,4,1,1+10*(F:Int),0,true⟩::EY a 0 F)) a w)∧c.length=2+10*F∧(∀f,f<F→ag c (2+10*f)=1)∧(∀x,x<2+10*F→(∀f,f<F→x≠2+10*f)→ag c x=0))∧
 (¬(2+10*F:Int)≤sz→lX K (ar sz [0] l a w) (F:Int)=some (⟨0,0⟩,22,ar sz [0] l a w)):=by
 unfold lX qy
 rw[fh (show ¬(F:Int)<1 by omega),fh (show ¬(F:Int)>4096 by omega),eM (x:=(F:Int)*10) (by omega),eM (x:=1+(F:Int)*10) (by omega),aE,fh (show ¬1+(F:Int)*10=0 by omega),aE]
 refine⟨λhf => ?_,λhf => ?_⟩
 ·rw[EW (by omega) (by omega) (by omega) (by show((1:Nat):Int)+(1+(F:Int)*10)≤sz;omega),cW,fQ rfl]
  have k1:=uy w l [(⟨a,4,1,1+(F:Int)*10,0,true⟩:be)]
  simp only[List.length_singleton]at k1
  obtain⟨c,r1,r2,r3,r4⟩:=Nd (K:=K) (sz:=sz) (a:=a) (w:=w) h2 F K 0 ([0]++List.replicate (1+(F:Int)*10).toNat 0) (wl w l [⟨a,4,1,1+(F:Int)*10,0,true⟩]) (by omega) (by omega) (by rw[List.length_append,List.length_replicate];simp;omega) (by omega)
  rw[Int.ofNat_zero]at r1
  refine⟨c,?_,by rw[r2,List.length_append,List.length_replicate];simp;omega,λf hf=>r3 f (Nat.zero_le _) hf,λx hx hn => ?_⟩
  ·show iE K (F:Int) ((1:Nat):Int) K (ar sz ([0]++List.replicate (1+(F:Int)*10).toNat 0) (wl w l [⟨a,4,((1:Nat):Int),1+(F:Int)*10,0,true⟩]) a w) 0=_
   rw[show((1:Nat):Int)=1 from rfl,r1,vQ,show 1+(F:Int)*10=1+10*(F:Int) by omega];rfl
  ·rw[r4 x (λf _ h=>hn f h)]
   by_cases e:x=0
   ·subst e;rfl
   ·rw[su (by simp;omega),zn (by simp;omega)]
 ·rw[EX (by omega) hs0 (by simp) (by omega) (by show ¬((1:Nat):Int)+(1+(F:Int)*10)≤sz;omega),cW,fh (by decide)]
theorem Ng{sz a:Int}{w:Bool}{N:Nat}(h1:1≤N)(h2:N≤64)(hs:sz≤1000000000)(hs0:0≤sz){c:List Int}(hc:c.length≤100000){l:List be}(hl:l.length≤100000) :
 ((c.length+2+N:Int)≤sz→nO (ar sz c l a w) (N:Int)=some (⟨(c.length:Nat),N⟩,0,ar sz (c++List.replicate (2+N) 0) (wl w l [⟨a,4,(c.length:Nat),2+(N:Int),0,true⟩]) a w))∧
 (¬(c.length+2+N:Int)≤sz→nO (ar sz c l a w) (N:Int)=some (⟨0,0⟩,22,ar sz c l a w)):=by
 unfold nO mu
 rw[fh (show ¬(N:Int)<1 by omega),fh (show ¬(N:Int)>64 by omega),eM (x:=2+(N:Int)) (by omega),aE,fh (show ¬2+(N:Int)=0 by omega),aE]
 refine⟨λhf => ?_,λhf => ?_⟩
 ·rw[EW (by omega) (by omega) (by omega) (by omega),cW,fQ rfl,show(2+(N:Int)).toNat=2+N by omega]
 ·rw[EX (by omega) hs0 (by omega) (by omega) (by omega),cW,fh (by decide)]
theorem Sf{sz a:Int}{w:Bool}{N F W:Nat}{jV:cY}(hl:Sd jV.bO jV.dk jV.iU)(hF:jV.bO=F)(Xc:1≤N)(hN:N≤64)(hW:(W:Int)=4+jV.dk)(hs:sz≤1000000000)(hs0:0≤sz)(hK:5000<K){p0:ai}(hp:p0.aP=[]) :
 (((4+10*F+N+N*W:Nat):Int)≤sz→∃c,lZ K p0 (ar sz [] [] a w) (N:Int) jV=some (0,⟨p0.code,0,1,F,2+10*(F:Int),N,Oc (4+10*F+N) W jV.iU 0 N,p0.ak,p0.ae,p0.value,p0.left⟩,ar sz c (wl w [] (pF a N F jV.dk)) a w)∧nA sz (pF a N F jV.dk)=pF a N F jV.dk∧CQ N F W jV.dk c)∧
 (¬((4+10*F+N+N*W:Nat):Int)≤sz→∃X c,lZ K p0 (ar sz [] [] a w) (N:Int) jV=some (22,X,ar sz c (wl w [] (nA sz (pF a N F jV.dk))) a w)):=by
 have f1:=hl.f1
 have f2:=hl.f2
 have h1:=hl.a1
 have h2:=hl.a2
 have h3:=hl.m2
 have hNW:N*W≤64*4100:=Nat.mul_le_mul hN (by omega)
 unfold lZ
 rw[hF]
 by_cases s1:¬(1:Int)≤sz
 ·rw[EX (c:=[]) (by omega) hs0 (by simp) (by omega) (by show ¬((0:Nat):Int)+1≤sz;omega),cW,fh (by decide)]
  refine⟨λh=>by exfalso;omega,λ_ => ?_⟩
  have:wl w [] (nA sz (pF a N F jV.dk))=[]:=by
   rw[pF,List.cons_append,List.cons_append,nA,fQ ⟨rfl,by show(0:Int)+1>sz;omega⟩,EU]
  rw[this];exact⟨_,[],rfl⟩
 have s1:=Decidable.not_not.1 s1
 rw[EW (c:=[]) (by simp) (by omega) (by omega) (by show((0:Nat):Int)+1≤sz;omega),cW,fQ rfl]
 have k0:=uy w [] [(⟨a,4,(([]:List Int).length:Nat),1,0,true⟩:be)]
 simp only[List.length_singleton,List.length_nil]at k0
 obtain⟨fr1,fr2⟩:=Iq (K:=K) (sz:=sz) (a:=a) (w:=w) (F:=F) (by omega) (by omega) hs hs0 hK (l:=wl w [] [(⟨a,4,(([]:List Int).length:Nat),1,0,true⟩:be)]) (by simp only[List.length_nil];omega)
 have SQ:nA sz (pF a N F jV.dk)=⟨a,4,0,1,0,true⟩::nA sz (⟨a,4,1,1+10*(F:Int),0,true⟩::EY a 0 F++(⟨a,4,2+10*(F:Int),2+(N:Int),0,true⟩::Bw a jV.dk (4+10*F+N:Nat) N++[⟨a,3,1,1,1,true⟩])):=by
  rw[pF,List.cons_append,List.cons_append,nA,fh (λh=>absurd h.2 (by show ¬(0:Int)+1>sz;omega))];rfl
 have e0:ar sz ([]++List.replicate (1:Int).toNat 0) (wl w [] [(⟨a,4,(([]:List Int).length:Nat),1,0,true⟩:be)]) a w=ar sz [0] (wl w [] [(⟨a,4,(([]:List Int).length:Nat),1,0,true⟩:be)]) a w:=rfl
 rw[e0]
 by_cases s2:¬(2+10*F:Int)≤sz
 ·rw[fr2 s2,cW,fh (by decide)]
  refine⟨λh=>by exfalso;omega,λ_ => ?_⟩
  rw[SQ,List.cons_append,nA,fQ ⟨rfl,by show(1:Int)+(1+10*(F:Int))>sz;omega⟩]
  exact⟨_,_,rfl⟩
 have s2:=Decidable.not_not.1 s2
 obtain⟨c1,q1,q2,q3,q4⟩:=fr1 s2
 rw[q1,cW,fQ rfl]
 have LZ:nA sz (pF a N F jV.dk)=⟨a,4,0,1,0,true⟩::⟨a,4,1,1+10*(F:Int),0,true⟩::(EY a 0 F++nA sz (⟨a,4,2+10*(F:Int),2+(N:Int),0,true⟩::Bw a jV.dk (4+10*F+N:Nat) N++[⟨a,3,1,1,1,true⟩])):=by
  rw[SQ,List.cons_append,nA,fh (λh=>absurd h.2 (by show ¬(1:Int)+(1+10*(F:Int))>sz;omega)),AQ _ _ (GD F 0)]
 have kf:(⟨a,4,1,1+10*(F:Int),0,true⟩::EY a 0 F:List be).length=F+1:=by rw[List.length_cons,JM]
 have k1:=uy w (wl w [] [(⟨a,4,(([]:List Int).length:Nat),1,0,true⟩:be)]) (⟨a,4,1,1+10*(F:Int),0,true⟩::EY a 0 F)
 rw[kf]at k1
 obtain⟨pk1,pk2⟩:=Ng (sz:=sz) (a:=a) (w:=w) (N:=N) Xc hN hs hs0 (c:=c1) (by omega) (l:=wl w (wl w [] [(⟨a,4,(([]:List Int).length:Nat),1,0,true⟩:be)]) (⟨a,4,1,1+10*(F:Int),0,true⟩::EY a 0 F)) (by simp only[List.length_nil];simp only[List.length_nil]at k1;omega)
 by_cases s3:¬(c1.length+2+N:Int)≤sz
 ·rw[pk2 s3,cW,fh (by decide)]
  refine⟨λh=>by exfalso;omega,λ_ => ?_⟩
  rw[LZ,List.cons_append,nA,fQ ⟨rfl,by show 2+10*(F:Int)+(2+(N:Int))>sz;omega⟩,List.append_nil]
  rw[vQ];exact⟨_,c1,rfl⟩
 have s3:=Decidable.not_not.1 s3
 rw[pk1 s3,cW,fQ rfl,hp,vQ,vQ]
 have Od:(c1++List.replicate (2+N) 0).length=4+10*F+N:=by rw[List.length_append,List.length_replicate];omega
 have kl:∀X:List be,X.length≤100000→(wl w [] X).length≤100000:=λX hX=>Nat.le_trans (uy w [] X) (by simpa using hX)
 obtain⟨d1,d2⟩:=Vx (K:=K) hl hs hs0 hN (B:=4+10*F+N) (by omega) hW (p0:=p0) (gV:=((([]:List Int).length:Nat):Int)) (n6:=⟨1,F⟩) (r32:=⟨(c1.length:Nat),N⟩) (a:=a) (w:=w) N K 0 (c1++List.replicate (2+N) 0)
  (wl w [] ([(⟨a,4,(([]:List Int).length:Nat),1,0,true⟩:be)]++(⟨a,4,1,1+10*(F:Int),0,true⟩::EY a 0 F++[⟨a,4,(c1.length:Nat),2+(N:Int),0,true⟩]))) [] (by omega) (by omega) (by rw[Od];omega) rfl (by
   have:=kl ([(⟨a,4,(([]:List Int).length:Nat),1,0,true⟩:be)]++(⟨a,4,1,1+10*(F:Int),0,true⟩::EY a 0 F++[⟨a,4,(c1.length:Nat),2+(N:Int),0,true⟩])) (by rw[List.length_append,List.length_append,kf];simp;omega)
   omega)
 rw[Od]at d1 d2
 rw[Int.ofNat_zero]at d1 d2
 have hc3:nA sz (pF a N F jV.dk)=⟨a,4,0,1,0,true⟩::⟨a,4,1,1+10*(F:Int),0,true⟩::(EY a 0 F++(⟨a,4,2+10*(F:Int),2+(N:Int),0,true⟩::nA sz (Bw a jV.dk (4+10*F+N:Nat) N++[⟨a,3,1,1,1,true⟩]))):=by
  rw[LZ,List.cons_append,nA,fh (λh=>absurd h.2 (by show ¬2+10*(F:Int)+(2+(N:Int))>sz;omega))]
 by_cases s4:¬((4+10*F+N+N*W:Nat):Int)≤sz
 ·refine⟨λh=>absurd h s4,λ_ => ?_⟩
  obtain⟨X,c',⟨r1,r2⟩ | r1⟩:=d2 s4
  ·rw[r1,Oo,vQ,hc3,r2]
   refine⟨X,c',?_⟩
   congr 5
   rw[q2]
   simp only[List.cons_append,List.nil_append,List.append_assoc,List.length_nil]
   rw[show((2+10*F:Nat):Int)=2+10*(F:Int) by omega];rfl
  ·exfalso;omega
 have s4:=Decidable.not_not.1 s4
 refine⟨λ_ => ?_,λh=>absurd s4 h⟩
 obtain⟨c',r1,r0,r2,r3,r4⟩:=d1 s4
 have b0:ag c' 1=0:=by
  rw[r3 1 (by omega),oE (by omega),q4 1 (by omega) (λf _=>by omega)]
 have kk:∀X:List be,X.length≤100000→(wl w [] X).length≤100000:=λX hX=>Nat.le_trans (uy w [] X) (by simpa using hX)
 have kd:=JN (a:=a) (first:=jV.dk) N (4+10*F+N:Nat)
 have ea:∀l:List be,l.length≤100000→(eL (kT (⟨1,F⟩:aN)) λTm=>pL (cC (ar sz c' l a w) Tm) λGs N9=>pL (gT Gs) λLM Tn=>some (LM,N9))=some (4,ar sz (c'.set 1 1) (wl w l [⟨a,3,1,1,1,true⟩]) a w):=λl hl=>by
  unfold kT jc mX
  simp only[fQ (show(1:Int)≥0 by decide),fQ (show(F:Int)≥1 by omega),fQ (show(F:Int)≤4096 by omega),fQ (show(0:Int)≥0 by decide),decide_eq_true (show(0:Int)<F by omega),aE,if_true,fh (show ¬(0:Int)<0 by decide),fh (show ¬(0:Int)≥8 by decide)]
  unfold cC iI mw
  dsimp only
  rw[fh (by decide),fQ rfl,aE,Sc (by omega) (by decide) (by omega),cW,fQ rfl]
  rw[show(1:Int).toNat=1 from rfl,b0,show wi ((0:Int)+1)=1 from rfl,fQ (by decide),decide_eq_true (show(1:Int)≤(F:Int) by omega),aE,fQ rfl]
  rfl
 have ea2:∀(l:List be),l.length≤100000→∀(f:Int→ah→Option (Int×ai×ah)),(eL (kT (⟨1,F⟩:aN)) λTm=>pL (cC (ar sz c' l a w) Tm) λGs N9=>pL (gT Gs) λLM Tn=>f LM N9)=f 4 (ar sz (c'.set 1 1) (wl w l [⟨a,3,1,1,1,true⟩]) a w):=λl hl f=>by
  have h:=ea l hl
  cases e1:kT (⟨1,F⟩:aN)with
  | none=>rw[e1]at h;simp[eL]at h
  | some x =>
   rw[e1,aE]at h;rw[aE]
   cases e2:cC (ar sz c' l a w) x with
   | none=>rw[e2]at h;simp[pL]at h
   | some y =>
    obtain⟨y1,y2⟩:=y
    rw[e2,ej]at h;rw[ej]
    cases e3:gT y1 with
    | none=>rw[e3]at h;simp[pL]at h
    | some u =>
     obtain⟨u1,u2⟩:=u
     rw[e3,ej]at h;rw[ej]
     have:=Prod.mk.inj (Option.some.inj h)
     rw[this.1,this.2]
 have hlen:∀X:List be,X.length≤100000→(wl w (wl w [] X) (Bw a jV.dk (4+10*F+N:Nat) N)).length≤200000:=λX hX=>by
  have:=uy w (wl w [] X) (Bw a jV.dk (4+10*F+N:Nat) N)
  have:=kk X hX
  omega
 rw[r1,On,vQ,ea2 _ (kk _ (by rw[List.length_append,List.length_append,List.length_append,kf,kd];simp;omega)) (λLM N9=>if LM=4 then some (0,_,N9)else some (22,_,N9)),fQ rfl]
 have ZM:nA sz (pF a N F jV.dk)=pF a N F jV.dk:=by
  rw[hc3]
  rw[GC _ _ r0,show nA sz [(⟨a,3,1,1,1,true⟩:be)]=[⟨a,3,1,1,1,true⟩] by rw[nA,fh (λh=>absurd h.1 (by show ¬(3:Int)=4;decide)),nA],pF]
  simp only[List.cons_append,List.nil_append,List.append_assoc]
 refine⟨c'.set 1 1,?_,ZM,?_⟩
 ·rw[vQ,q2]
  refine congrArg some (Prod.ext rfl (Prod.ext ?_ ?_))
  ·simp only[List.nil_append,List.length_nil]
   rw[show((2+10*F:Nat):Int)=2+10*(F:Int) by omega];rfl
  ·have:(([(⟨a,4,(([]:List Int).length:Nat),1,0,true⟩:be)]++(⟨a,4,1,1+10*(F:Int),0,true⟩::EY a 0 F++[⟨a,4,((2+10*F:Nat):Int),2+(N:Int),0,true⟩]))++Bw a jV.dk (4+10*F+N:Nat) N)++[⟨a,3,1,1,1,true⟩]=pF a N F jV.dk:=by
    rw[pF,show((2+10*F:Nat):Int)=2+10*(F:Int) by omega]
    simp only[List.cons_append,List.nil_append,List.append_assoc,List.length_nil];rfl
   rw[this]
 ·have BL:(c'.set 1 (1:Int)).length=c'.length:=List.length_set
  refine⟨by rw[BL,r2],?_,?_,λf hf r hr => ?_,λr hr => ?_,λi hi r hr => ?_⟩
  ·rw[w6 (by omega),fh (by decide),r3 0 (by omega),oE (by omega),q4 0 (by omega) (λf _=>by omega)]
  ·rw[w6 (by omega),fQ rfl]
  ·rw[w6 (by omega),fh (by omega),r3 _ (by omega),oE (by omega)]
   by_cases e:r=0
   ·subst e;rw[fQ rfl];exact q3 f hf
   ·rw[fh e,q4 _ (by omega) (λg _=>by omega)]
  ·rw[w6 (by omega),fh (by omega),r3 _ (by omega),su (by omega),zn (by omega)]
  ·have:=Nat.mul_le_mul_right W (show i+1≤N by omega)
   rw[Nat.succ_mul]at this
   rw[w6 (by omega),fh (by omega)]
   exact r4 i (Nat.zero_le _) hi r hr
end
end Mo
end
section
namespace Mo
open Go SL GX
section
variable {K:Nat}
theorem Pq{α:Type}[Inhabited α]{l:List α}{i:Nat}(h:i<l.length):l.drop i=ag l i::l.drop (i+1):=by
 rw[List.drop_eq_getElem_cons h];unfold ag;rw[List.getD_eq_getElem?_getD,List.getElem?_eq_getElem h];rfl
theorem Nh{p:aO}(hv:Valid p):∀(d k i:Nat) (l:List aG),i+d=p.aq.length→d<k→l.length=i→gl K p k l (i:Int)=some (l++p.aq.drop i)
 | d,k,i,l,hd,hk,hl=>by
  obtain⟨k,rfl⟩ :∃m,k=m+1:=⟨k-1,by omega⟩
  have:=hv.n32
  rw[gl]
  by_cases hi:i<p.aq.length
  ·obtain⟨d,rfl⟩ :∃m,d=m+1:=⟨d-1,by omega⟩
   have:=(hv.Ho i hi).EI
   rw[fQ (by omega),fQ ⟨by omega,by omega⟩,Int.toNat_natCast,fQ (by simp;omega),fQ (by omega),Ds (by omega),List.nil_append,Nh hv d k (i+1) _ (by omega) (by omega) (by simp[hl]),Pq hi,List.append_assoc];rfl
  ·rw[fh (by omega),List.drop_of_length_le (by omega),List.append_nil]
def ZN:aC:=⟨0,0,0,0,0,0,0,0,0,0,0,0,0,false,0,0⟩
def ZO:aT:=⟨0,0,0,0,0,0,0,0,0⟩
def ZP:bu:=⟨0,0,0,0,0,0,0,0,0,List.replicate 64 ⟨0,0⟩,⟨0,0,0,0,0,0,0,0,0,0,0,0,0,false,0,0⟩⟩
def Ir(i:Int):bB:=⟨i,9,-1,0,0,0,0,0,ZN,ZO,ZP,false⟩
def uz(i:Nat):Nat→List bB
 | 0=>[]
 | d+1=>Ir i::uz (i+1) d
theorem vw:∀(d i:Nat),(uz i d).length=d
 | 0,i=>rfl
 | d+1,i=>by rw[uz,List.length_cons,vw d (i+1)]
theorem Az:∀(d i j:Nat),j<d→ag (uz i d) j=Ir ((i+j:Nat):Int)
 | d+1,i,0,_=>rfl
 | d+1,i,j+1,h=>by
  have:=Az d (i+1) j (by omega)
  rw[show i+1+j=i+(j+1) by omega]at this
  exact this
theorem GF{N:Nat}(hN:N≤64):∀(d k i:Nat) (l:List bB),i+d=N→d<k→l.length=i→gp K (N:Int) k l (i:Int)=some (l++uz i d)
 | d,k,i,l,hd,hk,hl=>by
  obtain⟨k,rfl⟩ :∃m,k=m+1:=⟨k-1,by omega⟩
  rw[gp]
  by_cases hi:i<N
  ·obtain⟨d,rfl⟩ :∃m,d=m+1:=⟨d-1,by omega⟩
   rw[fQ (by omega),fQ (by omega),Ds (by omega),GF hN d k (i+1) _ (by omega) (by omega) (by simp[hl]),uz,List.append_assoc];rfl
  ·rw[fh (by omega)]
   obtain rfl:d=0:=by omega
   rw[uz,List.append_nil]
def Ni:ay:=⟨0,0,0,0,0,0,List.replicate 16 0⟩
def Vy(p:aO)(args:List Int)(N F W:Nat)(most:Int):ai:=
 { code:=p.aq,result:=0,aR:=1,aJ:=F,bC:=2+10*(F:Int),aK:=N,aP:=Oc (4+10*F+N) W most 0 N,
   ak:=(List.replicate F Ni).set 0 ⟨0,0,-1,0,0,1,xx 16 args (List.replicate 16 0)⟩,
   ae:=(uz 0 N).set 0 {Ir 0 with aj:=0,from_:=-1,aH:=0},value:=0,left:=false}
theorem Is{α:Type}{l:List α}{i:Nat}{x y:α}:(l.set i x).set i y=l.set i y:=by rw[List.set_set]
theorem Sg{sz a:Int}{w:Bool}{p:aO}{args:List Int}{N F W:Nat}{jV:cY}(hv:Valid p)(ha:(args.length:Int)=(ag p.aq 0).aU)(hl:Sd jV.bO jV.dk jV.iU)(hF:jV.bO=F)(Xc:1≤N)(hN:N≤64)(hW:(W:Int)=4+jV.dk)(hs:sz≤1000000000)(hs0:0≤sz)(hK:5000<K)(hr:ny K p args (N:Int) jV=some 0) :
 (((4+10*F+N+N*W:Nat):Int)≤sz→∃c,iv K (ar sz [] [] a w) p args (N:Int) jV=some (some (Vy p args N F W jV.iU),0,ar sz c (wl w [] (pF a N F jV.dk)) a w)∧nA sz (pF a N F jV.dk)=pF a N F jV.dk∧CQ N F W jV.dk c)∧
 (¬((4+10*F+N+N*W:Nat):Int)≤sz→∃c,iv K (ar sz [] [] a w) p args (N:Int) jV=some (none,22,ar sz c (wl w [] (nA sz (pF a N F jV.dk))) a w)):=by
 have f1:=hl.f1
 have f2:=hl.f2
 have hp8:=(hv.Ho 0 (by have:=hv.n1;omega)).p8
 have QL:=Nh (K:=K) hv p.aq.length K 0 [] (by omega) (by have:=hv.n32;omega) rfl
 rw[Int.ofNat_zero,List.nil_append,List.drop_zero]at QL
 unfold iv
 rw[hr,aE,fQ rfl,fQ ⟨by omega,by omega⟩,QL,aE]
 obtain⟨l1,l2⟩:=Sf (K:=K) (a:=a) (w:=w) hl hF Xc hN hW hs hs0 hK (p0:=(⟨p.aq,0,0,0,0,0,([]:List aI),List.replicate jV.bO.toNat (⟨0,0,0,0,0,0,List.replicate 16 (0:Int)⟩:ay),([]:List bB),0,false⟩:ai)) rfl
 refine⟨λhf => ?_,λhf => ?_⟩
 ·obtain⟨c,e1,e2,e3⟩:=l1 hf
  have hFt:jV.bO.toNat=F:=by omega
  have hact:=GF (K:=K) hN N K 0 [] (by omega) (by omega) rfl
  rw[Int.ofNat_zero,List.nil_append]at hact
  refine⟨c,?_,e2,e3⟩
  rw[e1,cW,fQ rfl]
  dsimp only
  rw[hFt,fQ ⟨by decide,by rw[List.length_replicate];omega⟩,fQ ⟨by decide,by rw[List.length_set,List.length_replicate];omega⟩,fQ (by omega),hact,aE,fQ ⟨by decide,by rw[vw];omega⟩]
  rw[Is,Is,Is,Az N 0 0 (by omega)]
  rfl
 ·obtain⟨X,c,e1⟩:=l2 hf
  rw[e1,cW,fh (by decide)]
  exact⟨c,rfl⟩
theorem Sh{S:ah}{p:aO}{args:List Int}{n:Int}{jV:cY}{e:Int}(hr:ny K p args n jV=some e)(he:e≠0):iv K S p args n jV=some (none,e,S):=by
 unfold iv
 rw[hr,aE,fh he]
end
end Mo
end
end Go.Proofs.YtpikpffbcjpmcaaGreatDoor

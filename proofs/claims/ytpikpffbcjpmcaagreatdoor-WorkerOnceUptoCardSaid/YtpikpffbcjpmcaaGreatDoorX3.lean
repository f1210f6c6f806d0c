/- plunderlaw11.WorkerOnce answers true for every input of the bulk that the statement names, and leaves its input alone. Conditions: none. -/
import Derived.Test.YtpikpffbcjpmcaaGreatDoorX2
set_option linter.unusedVariables false
set_option linter.unusedSimpArgs false
set_option linter.unusedSectionVars false
set_option maxRecDepth 100000
set_option maxHeartbeats 4000000
namespace Go.Proofs.YtpikpffbcjpmcaaGreatDoor
theorem nF_{p:Prop}(h:p:=by intro e;cases e):p:=h
section
namespace Mo
open Go Go.RowKit SL GX
noncomputable section
variable {z w:World}{L:List M5}
theorem Rz{K:Nat}{p0 q0:af}{cK:ae}{aq:Int}{B0 Nc NJ NO N6 NU Nb M9:Nat}{NK NG N2 NR Nu MS:Option Addr}(H:ig K p0 cK aq=some q0)(h:ft_ z (aed B0 p0 (.iface 33 (pA Nc 0)) N2 N6 NR NU Nu Nb MS M9 (aa8 Nc cK NK NJ NG NO L)) w)(FG:aZ aq p0.aa.length) :
 c0_ 140 #[pA (Cp MS) (aq.toNat*188)] w z (.tuple #[]) (aed B0 q0 (.iface 33 (pA Nc 0)) N2 N6 NR NU Nu Nb MS M9 (aa8 Nc cK NK NJ NG NO L)):=by
 unfold ig at H;refine ke Tryz.func140 33 rfl λj=>wq<|Oj H λsG Xh H=>λ_ r=>Ob [(Cp MS,aq.toNat*188,[pA B0 0]),(B0,5,[vI p0.dM,vI p0.bT]),(Cp MS,aq.toNat*188+1,[vI (MR p0 aq).bp]),(Cp MS,aq.toNat*188,[pA B0 0]),(B0,7,[.slice NR p0.dW.length NU])] [2,3,4,6,7,10,11,12,15,16,17,19,20] 26 h (λh=>⟨((h.pick 4).ad8 0 aq (zN FG) [pA B0 0]),(h.held 5 rfl),((h.pick 4).ad8 1 aq (zN FG) [vI (MR p0 aq).bp]),((h.pick 4).ad8 0 aq (zN FG) [pA B0 0]),⟨h.cell 7 rfl,CH⟩,CH⟩) λw h hd =>qq r<|Oi hd 13 [(0,2,pA (Cp MS) (aq.toNat*188)),(1,3,pA (Cp MS) (aq.toNat*188)),(2,4,pA (Cp MS) (aq.toNat*188)),(3,5,pA (Cp MS) (aq.toNat*188)),(4,6,pA (Cp MS) (aq.toNat*188)),(9,11,pA (Cp MS) (aq.toNat*188)),(10,12,pA (Cp MS) (aq.toNat*188)),(11,13,pA (Cp MS) (aq.toNat*188)),(12,14,pA (Cp MS) (aq.toNat*188+1)),(14,16,pA (Cp MS) (aq.toNat*188)),(15,17,pA (Cp MS) (aq.toNat*188)),(16,18,pA (Cp MS) (aq.toNat*188)),(17,19,pA (Cp MS) (aq.toNat*188))]<|kx hd 0 12 5 rfl rfl<|Oi hd 10 [(6,8,pA B0 0),(7,9,pA B0 5)]<|RJ hd 1 9 8 rfl rfl<|kx hd 2 8 13 rfl rfl<|kx hd 3 7 18 rfl rfl<|Oi hd 5 [(19,21,pA B0 0),(20,22,pA B0 7)]<|kx hd 4 4 21 rfl rfl<|λ_ r=>N3 22 rfl<|qq r<|N5 (X8 (R4:=NR) (Si:=NU) (VN:=(jJ.V8 Oc (h.pick 2) (λh=>(h.pick 2)))) (H:=Xh) (h:=h) :) λw h=>kn<|λ_ r=>xE<|qq r<|ev_ 2 23 rfl (pA (Cp MS) (aq.toNat*188))<|ev_ 1 24 rfl (pA (Cp MS) (aq.toNat*188+34))<|λ_ r=>N3 25 rfl<|qh h.m4 λh=>Ol (vs:=Pn sG) (f:=34) (i:=aq.toNat) (wn rfl) rfl r rfl (by kernel_rfl) (by kernel_rfl) rfl (by kernel_rfl) (MQ B0) h (p:=(MR p0 aq)) (q:=({MR p0 aq with Nf:=sG})) (zN FG) (aei (by kernel_rfl)) (by kernel_rfl) λw h=>qq r<|kn<|λ_ r=>xE<|O4<|qq r<|tn<|ks<|ko mT<|λ_ r=>agx r rfl (vB false) (MQ B0) h aq.toNat 187 {MR p0 aq with Nf:=sG} ({{MR p0 aq with Nf:=sG}with parked:=false}) (Nw (NS FG)) λw h=>qq r<|kn<|wl<|ko mT<|λ_ r=>agx r rfl (vI 12) (MQ B0) h aq.toNat 2 {{MR p0 aq with Nf:=sG}with parked:=false} ({{{MR p0 aq with Nf:=sG}with parked:=false}with aJ:=12}) (Nw ((NS (by simpa [aZ]using FG)))) λw h=>qq r<|kl<|λ_ r=>ve rfl r<|?_;replace h:=h.oH (λq_=>acE B0 p0 (.iface 33 (pA Nc 0)) N2 N6 NR NU Nu Nb MS M9 q_);cases H;exact⟨rfl,h.se 8 [1,2,3,4,0,5,6,7]⟩
def mq(p0:aX):Option (Bool):=
 (if p0.cu=1 then some (p0.aC==5)else some false)
theorem Wz{p0:aX}{r0:Bool}(H:mq p0=some r0)(h:ft_ z (L) w) :
 c0_ 143 #[OL p0] w z (vB r0) (L):=by
 unfold mq at H;refine ke Tryz.func143 13 rfl λj=>ks<|kN h (PN p0) 129 λb1 w h=>ko [U]<|kn<|ks<|ko Zy<|kL h 3<|ko [vB (p0.cu==1),vB (p0.cu==1)]<|qI H (λc2 H=>?_) λc2 H=>?_
 ·refine Nl (beq_iff_eq.mpr c2) [8,9] [pA b1 0,pA b1 4]<|λ_ r=>ld (PB r (beq_iff_eq.mpr c2)) r (vI p0.aC) (h.cell 4 rfl)<|?_;refine Nl (beq_iff_eq.mpr c2) [11] [vB (p0.aC==5)]<|PT (beq_iff_eq.mpr c2) (vB (p0.aC==5))<|ko [vB (p0.aC==5)]<|kn<|wr<|?_;cases H;exact Ox (h.se 1 [])
 refine Nh (bN c2) [8,9,10,11]<|PM (bN c2) (vB false)<|ko [U]<|kn<|wr<|?_;cases H;exact Ox (h.se 1 [])
def aP(p0:af)(cK:ae)(aq:Int)(p1:aA):Option (ah×af×ae):=
 pQ (dP p0 cK aq) (λiw nQ dw iv=>(if iw=0 then if aZ aq dw.aa.length then bH (mq (MR dw aq).Nf) (λsW=>(if sW=true then(if(MR dw aq).parked=true then some ((⟨0,0,0,0,0,0⟩:ah),dw,iv)else some ((⟨0,0,9,0,0,0⟩:ah),{dw with aa:=OV dw aq ({MR dw aq with parked:=true})},iv))else some ((⟨0,0,0,0,0,0⟩:ah),dw,iv)))else none else(if iw=16 then if aZ aq dw.aa.length then some ((⟨0,0,0,0,0,0⟩:ah),{dw with aa:=(OV dw aq ({MR dw aq with tries:=0})).set aq.toNat ({{MR dw aq with tries:=0}with aJ:=9})},iv)else none else(if iw=17 then if aZ aq dw.aa.length then iQ (eM dw iv aq) (λug pB=>some (ug,pB,iv))else none else if aZ aq dw.aa.length then iQ (NA dw iv aq) (λHy DR=>some (Hy,DR,iv))else none))))
theorem Pq{p0 q0:af}{cK Oq:ae}{aq:Int}{p1:aA}{B0 Nc NJ NO N6 NU Nb M9 B1:Nat}{NK NG N2 NR Nu MS:Option Addr}{r0:ah}(H:aP p0 cK aq p1=some (r0,q0,Oq))(h:ft_ z (aed B0 p0 (.iface 33 (pA Nc 0)) N2 N6 NR NU Nu Nb MS M9 (aa8 Nc cK NK NJ NG NO (Rr B1 p1::L))) w)(FG:aZ aq p0.aa.length) :
 c4_ 97 #[pA (Cp MS) (aq.toNat*188),.iface 42 (pA B1 0)] w z (NL r0) λNq Nr Ns Nt=>aed B0 q0 (.iface 33 (pA Nc 0)) N2 N6 NR NU Nu Nb MS M9 (aa8 Nc Oq Nq Nr Ns Nt (Rr B1 p1::L)):=by
 unfold aP at H;refine ke Tryz.func97 47 rfl λj=>ks<|kN h (acF) 47 λOP w h=>kn<|ks<|Ze H λiw nQ dw iv UQ H=>ko [U]<|qh h.m8.m8.m8.m8.m8.m8.m8.m8 λh=>GR (Qc (FG:=FG) (H:=UQ) (h:=h) :) λRh Rc QU Py w h=>ko [.tuple #[vI iw,vI nQ],U,U,U,U]<|kn<|wq<|ks<|ko [U]<|kn<|wb<|ks<|ko [vB (iw==0),vB (iw==0)]<|kn<|NN H (λTj H=>?_) λTj H=>?_
 ·refine wq<|ks<|qg H λTH H=>ko mT<|λ_ r=>RI (wn rfl) r (OL (MR dw aq).Nf) (cs:=Pn (MR dw aq).Nf) ((h.pick 4).ad8 34 aq (zN TH) (Pn (MR dw aq).Nf))<|?_;refine Oj H λsW e26 H=>N5 (Wz (H:=e26) (h:=h) :) λw h=>ko [U]<|qI H (λQk H=>?_) λQk H=>?_
  ·refine Nl (Qk) [21,22,23] [pA (Cp MS) (aq.toNat*188),pA (Cp MS) (aq.toNat*188),pA (Cp MS) (aq.toNat*188+187)]<|λ_ r=>ld (PB r (Qk)) r (vB (MR dw aq).parked) ((h.pick 4).Ng (sz:=188) (i:=aq.toNat) (MQ B0) (f:=187) (zN TH) (by kernel_rfl))<|?_;refine Nl (Qk) [25] [vB (!(MR dw aq).parked)]<|PT (Qk) (vB (!(MR dw aq).parked))<|kn<|Vb H (λT7 H=>?_) λT7 H=>?_
   ·refine wk<|tn<|ks<|ko [U]<|qh h.m8 λh=>kA h (pts OP (.cells acF 47)) λw h=>kn<|wr<|br<|tr<|kC h<|?_;cases H;exact⟨Rh,Rc,QU,Py,rfl,h.se 10 [1,2,3,4,5,6,7,8,9]⟩
   refine ks<|ko mT<|qh h.m4 λh=>λ_ r=>agx r rfl (vB true) (MQ B0) h aq.toNat 187 (MR dw aq) ({MR dw aq with parked:=true}) (zN TH) λw h=>qq r<|kn<|ks<|ko [U]<|qh h.m8 λh=>kA h (pts OP (.cells #[vI 0,vI 0,vI 9,vI 0,vI 0,vI 0] 47)) λw h=>kn<|wr<|tr<|br<|tr<|kC h<|qh h.m2.m2 λh=>?_;replace h:=h.oH (λq_=>acE B0 dw (.iface 33 (pA Nc 0)) N2 N6 NR NU Nu Nb MS M9 q_);cases H;exact⟨Rh,Rc,QU,Py,rfl,h.se 10 [1,3,4,5,0,6,7,8,9]⟩
  refine Nh (bF Qk) [21,22,23,24,25]<|PM (bF Qk) (vB false)<|kn<|λ_ r=>O3 r (b:=false) rfl<|qq r<|wk<|tn<|ks<|ko [U]<|qh h.m8 λh=>kA h (pts OP (.cells acF 47)) λw h=>kn<|wr<|br<|tr<|kC h<|?_;cases H;exact⟨Rh,Rc,QU,Py,rfl,h.se 10 [1,2,3,4,5,6,7,8,9]⟩
 refine ks<|ko [vB (iw==16),vB (iw==16)]<|kn<|NN H (λRa H=>?_) λRa H=>?_
 ·refine ks<|qg H λRw H=>ko ue<|qh h.m4 λh=>λ_ r=>agx r rfl (vI 0) (MQ B0) h aq.toNat 7 (MR dw aq) ({MR dw aq with tries:=0}) (zN Rw) λw h=>qq r<|ko Zy<|λ_ r=>agx r rfl (vI 9) (MQ B0) h aq.toNat 2 {MR dw aq with tries:=0} ({{MR dw aq with tries:=0}with aJ:=9}) (Nw (NS Rw)) λw h=>qq r<|kn<|ks<|ko [U]<|qh h.m8 λh=>kA h (pts OP (.cells acF 47)) λw h=>kn<|wr<|br<|tr<|kC h<|qh h.m2.m2 λh=>?_;replace h:=h.oH (λq_=>acE B0 dw (.iface 33 (pA Nc 0)) N2 N6 NR NU Nu Nb MS M9 q_);cases H;exact⟨Rh,Rc,QU,Py,rfl,h.se 10 [1,3,4,5,0,6,7,8,9]⟩
 refine ks<|ko [vB (iw==17),vB (iw==17)]<|kn<|NN H (λSs H=>?_) λSs H=>?_
 ·refine ks<|qg H λUC H=>RD H λug pB GJ H=>ko [U]<|N5 (Qv (FG:=UC) (H:=GJ) (h:=h) :) λw h=>qh h.m8 λh=>kA h (N8 OP ug) λw h=>kn<|wr<|br<|tr<|kC h<|?_;cases H;exact⟨Rh,Rc,QU,Py,rfl,h.se 10 [1,2,3,4,5,6,7,8,9]⟩
 refine wk<|bn<|tn<|ks<|qg H λXc H=>RD H λHy DR e41 H=>ko [U]<|N5 (ND (FG:=Xc) (H:=e41) (h:=h) :) λw h=>qh h.m8 λh=>kA h (N8 OP Hy) λw h=>kn<|wr<|kC h<|?_;cases H;exact⟨Rh,Rc,QU,Py,rfl,h.se 10 [1,2,3,4,5,6,7,8,9]⟩
def Ri(p0:Int)(p1:Int):Option (Int):=
 (if p1<1 then some 0 else if p1≠0 then(if(p0.tmod p1)<0 then some (wi ((p0.tmod p1)+p1))else some (p0.tmod p1))else none)
theorem S4{p0 p1 r0:Int}(H:Ri p0 p1=some r0)(h:ft_ z (L) w) :
 c0_ 63 #[vI p0,vI p1] w z (vI r0) (L):=by
 unfold Ri at H;refine ke Tryz.func63 17 rfl λj=>ks<|ko [U]<|kn<|wq<|ks<|ko [U,vB (decide (p1<1))]<|kn<|NN H (λc1 H=>?_) λc1 H=>?_
 ·refine ks<|ko [U]<|kn<|wr<|tr<|?_;cases H;exact Ox h
 refine wk<|tn<|ks<|qg H λc2 H=>ko Zy<|kp (vI (p0.tmod p1)) (aas rfl (by kernel_rfl) (by kernel_rfl) c2)<|ko [vI (p0.tmod p1)]<|kn<|wq<|ks<|ko [vI (p0.tmod p1),vB (decide ((p0.tmod p1)<0))]<|kn<|NN H (λc3 H=>?_) λc3 H=>?_
 ·refine wl<|ko [vI (p0.tmod p1),U,vI (wi ((p0.tmod p1)+p1)),vI (wi ((p0.tmod p1)+p1))]<|kn<|ks<|ko [vI (wi ((p0.tmod p1)+p1)),vI (wi ((p0.tmod p1)+p1))]<|kn<|wr<|?_;cases H;exact Ox h
 refine wk<|tn<|ks<|ko [vI (p0.tmod p1),vI (p0.tmod p1)]<|kn<|wr<|?_;cases H;exact Ox h
def oa(p0:aT):Option (aK):=
 bH (PU 3 2 p0 0) (λr3=>some r3)
theorem WA{p0:aT}{r0:aK}(H:oa p0=some r0)(h:ft_ z (L) w) :
 c0_ 141 #[Ou p0] w z (NT r0) (L):=by
 unfold oa at H;refine ke Tryz.func141 5 rfl λj=>ks<|kN h (PW p0) 118 λb1 w h=>kN h (#[vI 0,vI 0,vI 0,vI 0,vI 0,vI 0,vI 0,vI 0,vI 0,vI 0,vI 0,vI 0,vI 0,vB false,vI 0,vI 0]) 120 λb2 w h=>kn<|ks<|kM (h.pick 1)<|Oj H λr3 e4 H=>N5 (Q2 (H:=e4) (h:=h) :) λw h=>kA h (Nx b2 r3) λw h=>kn<|wr<|kC h<|?_;cases H;exact⟨rfl,h.se 2 []⟩
def mG(p0:bU):Option (aX):=
 bH (fc p0.ez) (λr3=>(if r3=0 then some (⟨0,0,0,0,0,0,0,0,0,(List.replicate 64 Wu),Pk⟩:aX)else some (⟨p0.j1,p0.ez,0,3,3,0,0,0,0,(List.replicate 64 Wu),Pk⟩:aX)))
theorem X9{p0:bU}{r0:aX}(H:mG p0=some r0)(h:ft_ z (L) w) :
 c0_ 142 #[Qa p0] w z (OL r0) (L):=by
 unfold mG at H;refine ke Tryz.func142 11 rfl λj=>ks<|kN h (QD p0) 106 λb1 w h=>kN h ((yz++O8 64 M4 (List.replicate 64 Wu)++M6 Pk).toArray) 129 λb2 w h=>kn<|wq<|ks<|ko [U]<|kL (h.pick 1) 1<|Oj H λr3 e4 H=>N5 (QF (H:=e4) (h:=h) :) λw h=>ko [vB (r3==0)]<|kn<|NN H (λc5 H=>?_) λc5 H=>?_
 ·refine ks<|ko [U]<|kA h (pts b2 (.cells ((yz++O8 64 M4 (List.replicate 64 Wu)++M6 Pk).toArray) 129)) λw h=>kn<|wr<|tr<|kC h<|?_;cases H;exact⟨rfl,h.se 2 []⟩
 refine wk<|tn<|ks<|kM (h.pick 1)<|ko Zy<|kA h (pts b2 (.cells (([vI p0.j1,vI p0.ez,vI 0,vI 3,vI 3,vI 0,vI 0,vI 0,vI 0]++O8 64 M4 (List.replicate 64 Wu)++M6 Pk).toArray) 129)) λw h=>kn<|wr<|kC h<|?_;cases H;exact⟨rfl,h.se 2 []⟩
def aY(p0:af)(cK:ae)(aq:Int)(p1:aA):Option (ah×af×ae):=
 pQ (fg p0 cK aq) (λiw nQ dw iv=>(if iw=0 then some ((⟨0,0,0,0,0,0⟩:ah),dw,iv)else(if iw=4 then if aZ aq dw.aa.length then some ((⟨0,0,8,({{{MR dw aq with an:=nQ}with from_:=(MR dw aq).eB}with aJ:=0}).an,({{{MR dw aq with an:=nQ}with from_:=(MR dw aq).eB}with aJ:=0}).eB,0⟩:ah),{dw with aa:=((OV dw aq ({MR dw aq with an:=nQ})).set aq.toNat ({{MR dw aq with an:=nQ}with from_:=(MR dw aq).eB})).set aq.toNat ({{{MR dw aq with an:=nQ}with from_:=(MR dw aq).eB}with aJ:=0})},iv)else none else bH ((if iw=5 then some (iw==5)else some (iw==6))) (λKx=>(if Kx=true then if aZ aq dw.aa.length then bH (mG (⟨dw.dM,dw.bT⟩:bU)) (λBm=>some ((⟨0,0,0,0,0,0⟩:ah),{dw with aa:=((OV dw aq ({MR dw aq with tries:=wi ((MR dw aq).tries+1)})).set aq.toNat ({{MR dw aq with tries:=wi ((MR dw aq).tries+1)}with Nf:=Bm})).set aq.toNat ({{{MR dw aq with tries:=wi ((MR dw aq).tries+1)}with Nf:=Bm}with aJ:=11})},iv))else none else if aZ aq dw.aa.length then iQ (NA dw iv aq) (λBq Cz=>some (Bq,Cz,iv))else none)))))
theorem Ph{p0 q0:af}{cK Oq:ae}{aq:Int}{p1:aA}{B0 Nc NJ NO N6 NU Nb M9 B1:Nat}{NK NG N2 NR Nu MS:Option Addr}{r0:ah}(H:aY p0 cK aq p1=some (r0,q0,Oq))(h:ft_ z (aed B0 p0 (.iface 33 (pA Nc 0)) N2 N6 NR NU Nu Nb MS M9 (aa8 Nc cK NK NJ NG NO (Rr B1 p1::L))) w)(FG:aZ aq p0.aa.length) :
 c4_ 95 #[pA (Cp MS) (aq.toNat*188),.iface 42 (pA B1 0)] w z (NL r0) λNq Nr Ns Nt=>aed B0 q0 (.iface 33 (pA Nc 0)) N2 N6 NR NU Nu Nb MS M9 (aa8 Nc Oq Nq Nr Ns Nt (Rr B1 p1::L)):=by
 unfold aY at H;refine ke Tryz.func95 62 rfl λj=>ks<|kN h (acF) 47 λOP w h=>kn<|wq<|ks<|Ze H λiw nQ dw iv UQ H=>ko [U]<|qh h.m8.m8.m8.m8.m8.m8.m8.m8 λh=>GR (Qn (FG:=FG) (H:=UQ) (h:=h) :) λRh Rc QU Py w h=>ko [.tuple #[vI iw,vI nQ],U,U,U,U]<|kn<|ks<|ko [U]<|kn<|wb<|ks<|ko [vB (iw==0),vB (iw==0)]<|kn<|NN H (λTj H=>?_) λTj H=>?_
 ·refine ks<|ko [U]<|qh h.m8 λh=>kA h (pts OP (.cells acF 47)) λw h=>kn<|wr<|br<|tr<|kC h<|?_;cases H;exact⟨Rh,Rc,QU,Py,rfl,h.se 10 [1,2,3,4,5,6,7,8,9]⟩
 refine ks<|ko [vB (iw==4),vB (iw==4)]<|kn<|NN H (λTH H=>?_) λTH H=>?_
 ·refine ks<|qg H λSD H=>ko u5_<|λ_ r=>ld (wn rfl) r (vI (MR dw aq).eB) ((h.pick 4).Ng (sz:=188) (i:=aq.toNat) (MQ B0) (f:=8) (zN SD) (by kernel_rfl))<|?_;intro _ r;refine Ur (wn rfl) rfl rfl r (f:=52) (args:=#[pA (Cp MS) (aq.toNat*188),vI nQ,vI (MR dw aq).eB]) (by kernel_rfl) ?_;clear r;refine enter Tryz.func52 rfl 17 rfl rfl [(0,pA (Cp MS) (aq.toNat*188)),(1,vI nQ),(2,vI (MR dw aq).eB)] ⟨by kernel_rfl,by kernel_rfl,by kernel_rfl,CH⟩ ?_;intro j a r;refine qq r<|wl<|ko u7_<|qh h.m4 λh=>λ_ r=>agx r rfl (vI nQ) (MQ B0) h aq.toNat 3 (MR dw aq) ({MR dw aq with an:=nQ}) (zN SD) λw h=>qq r<|ko Zy<|λ_ r=>agx r rfl (vI (MR dw aq).eB) (MQ B0) h aq.toNat 4 {MR dw aq with an:=nQ} ({{MR dw aq with an:=nQ}with from_:=(MR dw aq).eB}) (Nw (NS SD)) λw h=>qq r<|ko Zy<|λ_ r=>agx r rfl (vI 0) (MQ B0) h aq.toNat 2 {{MR dw aq with an:=nQ}with from_:=(MR dw aq).eB} ({{{MR dw aq with an:=nQ}with from_:=(MR dw aq).eB}with aJ:=0}) (Nw ((NS (by simpa [aZ]using SD)))) λw h=>qq r<|kl<|λ_ r=>ve rfl r<|?_;refine⟨_,rfl,?_⟩;clear r;intro a r;refine qq r<|kn<|wq<|λ_ r=>Ob [(Cp MS,aq.toNat*188+3,[vI ({{{MR dw aq with an:=nQ}with from_:=(MR dw aq).eB}with aJ:=0}).an]),(Cp MS,aq.toNat*188+8,[vI ({{{MR dw aq with an:=nQ}with from_:=(MR dw aq).eB}with aJ:=0}).eB])] [1,2,5,6] 10 h (λh=>⟨(h.ad8 3 aq (Nw ((NS (by simpa [aZ]using SD)))) [vI ({{{MR dw aq with an:=nQ}with from_:=(MR dw aq).eB}with aJ:=0}).an]),(h.ad8 8 aq (Nw ((NS (by simpa [aZ]using SD)))) [vI ({{{MR dw aq with an:=nQ}with from_:=(MR dw aq).eB}with aJ:=0}).eB]),CH⟩) λw h hd =>qq r<|Oi hd 4 [(0,25,pA (Cp MS) (aq.toNat*188)),(1,26,pA (Cp MS) (aq.toNat*188)),(2,27,pA (Cp MS) (aq.toNat*188+3)),(4,29,pA (Cp MS) (aq.toNat*188)),(5,30,pA (Cp MS) (aq.toNat*188)),(6,31,pA (Cp MS) (aq.toNat*188+8))]<|kx hd 0 3 3 rfl rfl<|kx hd 1 2 7 rfl rfl<|Oi hd 1 [(8,33,.agg #[vI 0,vI 0,vI 8,vI ({{{MR dw aq with an:=nQ}with from_:=(MR dw aq).eB}with aJ:=0}).an,vI ({{{MR dw aq with an:=nQ}with from_:=(MR dw aq).eB}with aJ:=0}).eB,vI 0])]<|λ_ r=>N3 9 rfl<|qh h.m8 λh=>qq r<|kA h (pts OP (.cells #[vI 0,vI 0,vI 8,vI ({{{MR dw aq with an:=nQ}with from_:=(MR dw aq).eB}with aJ:=0}).an,vI ({{{MR dw aq with an:=nQ}with from_:=(MR dw aq).eB}with aJ:=0}).eB,vI 0] 47)) λw h=>kn<|λ_ r=>xE<|O4<|qq r<|tn<|wr<|br<|tr<|kC h<|qh h.m2.m2 λh=>?_
  replace h:=h.oH (λq_=>acE B0 dw (.iface 33 (pA Nc 0)) N2 N6 NR NU Nu Nb MS M9 q_);cases H;exact⟨Rh,Rc,QU,Py,rfl,h.se 10 [1,3,4,5,0,6,7,8,9]⟩
 refine VA H λo29 H acv=>λ_ r=>Nn (β:=Unit) (λ_ a w=>∃Kx:Bool,Kx=o29/\∃j,Gk 62 (lk [(0,pA (Cp MS) (aq.toNat*188)),(4,pA OP 0),(34,vB Kx)] j) a/\Fit z (cQ (pts OP (.cells acF 47)::Od B0 dw (.iface 33 (pA Nc 0)) N2 N6 NR NU Nu Nb MS M9::aa8 Nc iv Rh Rc QU Py (Oo N2 N6 dw.code::NV NR NU dw.dW::NY Nu Nb dw.ak::NW B0 MS M9 dw.aa::Rr B1 p1::L))) w) ?_ ?_
 ·refine qq r<|ks<|ko [vB (iw==5),vB (iw==5)]<|kn<|NN H (λRa H=>?_) λRa H=>?_
  ·refine wk<|tn<|?_;exact λ_ r=>⟨(),(iw==5),On H,r.fj (h.se 10 [8,0,5,6,7,1,2,3,4,9])⟩
  refine wl<|ko [vB (iw==6),vB (iw==6)]<|kn<|?_;exact λ_ r=>⟨(),(iw==6),On H,r.fj (h.se 10 [8,0,5,6,7,1,2,3,4,9])⟩
 clear h r;rintro _ a w ⟨Kx,rfl,j,r,h⟩;replace H:=Vy acv;refine qq r<|V4 H (λRw H=>?_) λRw H=>?_
 ·refine ks<|qg H λUO H=>ko mT<|λ_ r=>ld (wn rfl) r (vI (MR dw aq).tries) ((h.pick 8).Ng (sz:=188) (i:=aq.toNat) (MQ B0) (f:=7) (zN UO) (by kernel_rfl))<|?_;refine ko [vI (wi ((MR dw aq).tries+1)),U,U]<|qh h.m8 λh=>λ_ r=>agx r rfl (vI (wi ((MR dw aq).tries+1))) (MQ B0) h aq.toNat 7 (MR dw aq) ({MR dw aq with tries:=wi ((MR dw aq).tries+1)}) (zN UO) λw h=>qq r<|kn<|ks<|ko u5_<|λ_ r=>ld (wn rfl) r (pA B0 0) (h.Ng (sz:=188) (i:=aq.toNat) (MQ B0) (f:=0) (Nw (NS UO)) (by kernel_rfl))<|?_;refine ko Zy<|λ_ r=>RI (wn rfl) r (.agg #[vI dw.dM,vI dw.bT]) (cs:=[vI dw.dM,vI dw.bT]) ((h.pick 2).held 5 rfl)<|?_;refine Oj H λBm e34 H=>N5 (X9 (H:=e34) (h:=h) :) λw h=>ko Zy<|λ_ r=>Ol (vs:=Pn Bm) (f:=34) (i:=aq.toNat) (wn rfl) rfl r rfl (by kernel_rfl) (by kernel_rfl) rfl (by kernel_rfl) (MQ B0) h (p:={MR dw aq with tries:=wi ((MR dw aq).tries+1)}) (q:=({{MR dw aq with tries:=wi ((MR dw aq).tries+1)}with Nf:=Bm})) (Nw (NS UO)) (aei (by kernel_rfl)) (by kernel_rfl) λw h=>qq r<|kn<|ks<|ko mT<|λ_ r=>agx r rfl (vI 11) (MQ B0) h aq.toNat 2 {{MR dw aq with tries:=wi ((MR dw aq).tries+1)}with Nf:=Bm} ({{{MR dw aq with tries:=wi ((MR dw aq).tries+1)}with Nf:=Bm}with aJ:=11}) (Nw ((NS (by simpa [aZ]using UO)))) λw h=>qq r<|kn<|ks<|ko [U]<|qh h.m1 λh=>kA h (pts OP (.cells acF 47)) λw h=>kn<|wr<|br<|tr<|kC h<|qh h.m2.m2 λh=>?_;replace h:=h.oH (λq_=>acE B0 dw (.iface 33 (pA Nc 0)) N2 N6 NR NU Nu Nb MS M9 q_);cases H;exact⟨Rh,Rc,QU,Py,rfl,h.se 10 [1,6,7,8,0,3,4,5,9]⟩
 refine wk<|bn<|tn<|ks<|qg H λVC H=>RD H λBq Cz e39 H=>ko [U]<|qh h.m4.m4.m4.m8.m8.m8.m8.m8 λh=>N5 (ND (FG:=VC) (H:=e39) (h:=h) :) λw h=>qh h.m8 λh=>kA h (N8 OP Bq) λw h=>kn<|wr<|kC h<|?_;cases H;exact⟨Rh,Rc,QU,Py,rfl,h.se 10 [1,2,3,4,5,6,7,8,9]⟩
def Oe(K:Nat)(p0:af)(cK:ae)(aq:Int)(p1:aA):Option (ah×af×ae×aA):=
 bH (fh p0 cK (MR p0 aq).bp) (λiw=>(if iw=1 then bH (ig K p0 cK aq) (λiv=>if aZ aq iv.aa.length then gh (aP iv cK aq p1) (λSW pV Ky=>some (SW,pV,Ky,p1))else none)else bH (fh p0 cK (MR p0 aq).bp) (λqU=>bH (Ri (Uu p1) (wi (qU-1))) (λsM=>bH (fh p0 cK (MR p0 aq).bp) (λr32=>bH (Ri (wi ((wi ((MR p0 aq).bp+1))+sM)) r32) (λnN=>if aZ ({MR p0 aq with eB:=nN}).eB p0.dW.length then bH (oa (ag p0.dW ({MR p0 aq with eB:=nN}).eB.toNat)) (λFZ=>gh (aY ({p0 with aa:=((OV p0 aq ({MR p0 aq with eB:=nN})).set aq.toNat ({{MR p0 aq with eB:=nN}with aG:=FZ})).set aq.toNat ({{{MR p0 aq with eB:=nN}with aG:=FZ}with aJ:=10})}) cK aq (sL p1)) (λKz KA KB=>some (Kz,KA,KB,sL p1)))else none))))))
theorem P2{K:Nat}{p0 q0:af}{cK Oq:ae}{aq:Int}{p1 q1:aA}{B0 Nc NJ NO N6 NU Nb M9 B1:Nat}{NK NG N2 NR Nu MS:Option Addr}{r0:ah}(H:Oe K p0 cK aq p1=some (r0,q0,Oq,q1))(h:ft_ z (aed B0 p0 (.iface 33 (pA Nc 0)) N2 N6 NR NU Nu Nb MS M9 (aa8 Nc cK NK NJ NG NO (Rr B1 p1::L))) w)(FG:aZ aq p0.aa.length) :
 c4_ 94 #[pA (Cp MS) (aq.toNat*188),.iface 42 (pA B1 0)] w z (NL r0) λNq Nr Ns Nt=>aed B0 q0 (.iface 33 (pA Nc 0)) N2 N6 NR NU Nu Nb MS M9 (aa8 Nc Oq Nq Nr Ns Nt (Rr B1 q1::L)):=by
 unfold Oe at H;refine ke Tryz.func94 67 rfl λj=>ks<|kN h (acF) 47 λOP w h=>kn<|wq<|ks<|ko mT<|λ_ r=>RI (wn rfl) r (.agg #[pA B0 0,vI (MR p0 aq).bp]) (cs:=[pA B0 0,vI (MR p0 aq).bp]) ((h.pick 5).ad8 0 aq (zN FG) [pA B0 0,vI (MR p0 aq).bp])<|?_;refine Oj H λiw XY H=>qh h.m8.m8.m8.m8.m8.m8.m8.m8 λh=>N5 (Qo (H:=XY) (h:=h) :) λw h=>ko [vB (iw==1)]<|kn<|NN H (λR0 H=>?_) λR0 H=>?_
 ·refine ks<|Oj H λiv UQ H=>ko [U]<|N5 (Rz (FG:=FG) (H:=UQ) (h:=h) :) λw h=>kn<|ks<|qg H λQO H=>QW H λSW pV Ky TI H=>ko Zy<|qh h.m9.m8.m8.m8.m8.m8.m8.m8.m8 λh=>GR (Pq (FG:=QO) (H:=TI) (h:=h) :) λTZ U8 Xf x27 w h=>qh h.m9 λh=>kA h (N8 OP SW) λw h=>kn<|wr<|tr<|kC h<|?_;cases H;exact⟨TZ,U8,Xf,x27,rfl,h.se 10 [1,2,3,4,5,6,7,8,9]⟩
 refine wk<|tn<|wq<|Oj H λqU e29 H=>Oj H λsM e31 H=>λ_ r=>Ob [(Cp MS,aq.toNat*188,[pA B0 0,vI (MR p0 aq).bp])] [1,3,4] 10 h (λh=>⟨((h.pick 4).ad8 0 aq (zN FG) [pA B0 0,vI (MR p0 aq).bp]),CH⟩) λw h hd =>qq r<|Oi hd 6 [(0,17,.iface 42 (pA B1 0)),(2,19,pA (Cp MS) (aq.toNat*188)),(3,20,pA (Cp MS) (aq.toNat*188)),(4,21,pA (Cp MS) (aq.toNat*188))]<|RJ hd 0 5 5 rfl rfl<|λ_ r=>N3 1 rfl<|qh h.m9 λh=>qq r<|N5 (Wk (h:=h) :) λw h=>kn<|λ_ r=>eE ⟨((h.pick 5).ad8 0 aq (zN FG) [pA B0 0,vI (MR p0 aq).bp]),CH⟩ λhd =>qq r<|λ_ r=>N3 6 rfl<|qh h.m8.m8.m8.m8.m8.m8.m8.m8 λh=>qq r<|N5 (Qo (H:=e29) (h:=h) :) λw h=>kn<|λ_ r=>xE<|qq r<|ev_ 2 7 rfl (vI (wi (qU-1)))<|λ_ r=>N3 8 rfl<|qq r<|N5 (S4 (H:=e31) (h:=h) :) λw h=>kn<|λ_ r=>xE<|qq r<|ev_ 0 9 rfl (vI sM)<|λ_ r=>O4<|qq r<|tn<|wq<|Oj H λr32 e33 H=>Oj H λnN XU H=>λ_ r=>Ob [(Cp MS,aq.toNat*188+1,[vI (MR p0 aq).bp]),(Cp MS,aq.toNat*188,[pA B0 0,vI (MR p0 aq).bp])] [2,3,4,6,8,10,11,13] 18 h (λh=>⟨((h.pick 4).ad8 1 aq (zN FG) [vI (MR p0 aq).bp]),((h.pick 4).ad8 0 aq (zN FG) [pA B0 0,vI (MR p0 aq).bp]),CH⟩) λw h hd =>qq r<|Oi hd 9 [(0,26,pA (Cp MS) (aq.toNat*188)),(1,27,pA (Cp MS) (aq.toNat*188)),(2,28,pA (Cp MS) (aq.toNat*188)),(3,29,pA (Cp MS) (aq.toNat*188)),(4,30,pA (Cp MS) (aq.toNat*188+1)),(7,33,vI sM),(9,35,pA (Cp MS) (aq.toNat*188)),(10,36,pA (Cp MS) (aq.toNat*188)),(11,37,pA (Cp MS) (aq.toNat*188))]<|kx hd 0 8 5 rfl rfl<|Oi hd 6 [(6,32,vI (wi ((MR p0 aq).bp+1))),(8,34,vI (wi ((wi ((MR p0 aq).bp+1))+sM)))]<|RJ hd 1 5 12 rfl rfl<|λ_ r=>N3 13 rfl<|qq r<|N5 (Qo (H:=e33) (h:=h) :) λw h=>kn<|λ_ r=>eE ⟨((h.pick 4).ad8 1 aq (zN FG) [vI (MR p0 aq).bp]),((h.pick 4).ad8 0 aq (zN FG) [pA B0 0,vI (MR p0 aq).bp]),CH⟩ λhd =>qq r<|λ_ r=>N3 14 rfl<|qq r<|N5 (S4 (H:=XU) (h:=h) :) λw h=>kn<|λ_ r=>xE<|qq r<|ev_ 2 15 rfl (pA (Cp MS) (aq.toNat*188))<|ev_ 1 16 rfl (pA (Cp MS) (aq.toNat*188+8))<|λ_ r=>N3 17 rfl<|qh h.m4 λh=>agx r rfl (vI nN) (MQ B0) h aq.toNat 8 (MR p0 aq) ({MR p0 aq with eB:=nN}) (zN FG) λw h=>qq r<|kn<|λ_ r=>xE<|O4<|qq r<|tn<|wq<|?_;replace h:=h.oH (λq_=>acE B0 p0 (.iface 33 (pA Nc 0)) N2 N6 NR NU Nu Nb MS M9 q_)
 refine qg H λXD H=>Oj H λFZ e39 H=>λ_ r=>Ob [(Cp MS,aq.toNat*188,[pA B0 0]),(B0,7,[.slice NR p0.dW.length NU]),(Cp MS,aq.toNat*188+8,[vI ({MR p0 aq with eB:=nN}).eB]),(Cp NR,({MR p0 aq with eB:=nN}).eB.toNat*2,Pd (ag p0.dW ({MR p0 aq with eB:=nN}).eB.toNat))] [2,3,4,6,7,10,11,13] 19 h (λh=>⟨(h.ad8 0 aq (Nw (NS FG)) [pA B0 0]),⟨(h.pick 1).cell 7 rfl,CH⟩,(h.ad8 8 aq (Nw (NS FG)) [vI ({MR p0 aq with eB:=nN}).eB]),⟨(h.pick 3).Ng Oc (f:=0) (zN XD) rfl,(h.pick 3).Ng Oc (f:=1) (zN XD) rfl,CH⟩,CH⟩) λw h hd =>qq r<|Oi hd 11 [(0,43,pA (Cp MS) (aq.toNat*188)),(1,44,pA (Cp MS) (aq.toNat*188)),(2,45,pA (Cp MS) (aq.toNat*188)),(3,46,pA (Cp MS) (aq.toNat*188)),(4,47,pA (Cp MS) (aq.toNat*188)),(9,52,pA (Cp MS) (aq.toNat*188)),(10,53,pA (Cp MS) (aq.toNat*188)),(11,54,pA (Cp MS) (aq.toNat*188+8))]<|kx hd 0 10 5 rfl rfl<|Oi hd 8 [(6,49,pA B0 0),(7,50,pA B0 7)]<|kx hd 1 7 8 rfl rfl<|kx hd 2 6 12 rfl rfl<|eo_ hd 5 13 rfl (pA (Cp NR) (({MR p0 aq with eB:=nN}).eB.toNat*2)) (λw=>ag0 118 rfl (h.pick 3) XD)<|RJ hd 3 4 14 rfl rfl<|λ_ r=>N3 15 rfl<|qq r<|N5 (WA (H:=e39) (h:=h) :) λw h=>kn<|λ_ r=>xE<|qq r<|ev_ 2 16 rfl (pA (Cp MS) (aq.toNat*188))<|ev_ 1 17 rfl (pA (Cp MS) (aq.toNat*188+9))<|λ_ r=>N3 18 rfl<|Ol (vs:=OX FZ) (f:=9) (i:=aq.toNat) (wn rfl) rfl r rfl (by kernel_rfl) (by kernel_rfl) rfl (by kernel_rfl) (MQ B0) h (p:={MR p0 aq with eB:=nN}) (q:=({{MR p0 aq with eB:=nN}with aG:=FZ})) (Nw (NS FG)) (aei (by kernel_rfl)) (by kernel_rfl) λw h=>qq r<|kn<|λ_ r=>xE<|O4<|qq r<|tn<|ks<|ko mT<|λ_ r=>agx r rfl (vI 10) (MQ B0) h aq.toNat 2 {{MR p0 aq with eB:=nN}with aG:=FZ} ({{{MR p0 aq with eB:=nN}with aG:=FZ}with aJ:=10}) (Nw ((NS (by simpa [aZ]using FG)))) λw h=>qq r<|kn<|ks<|ko Zy<|?_;replace h:=h.oH (λq_=>acE B0 p0 (.iface 33 (pA Nc 0)) N2 N6 NR NU Nu Nb MS M9 q_);refine QW H λKz KA KB e44 H=>qh h.m8.m8.m8.m8.m4.m8.m8.m8.m8 λh=>GR (Ph (FG:=(by simpa [aZ]using FG)) (H:=e44) (h:=h) :) λx45 x46 x47 x48 w h=>qh h.m9 λh=>kA h (N8 OP Kz) λw h=>kn<|wr<|kC h<|?_;cases H;exact⟨x45,x46,x47,x48,rfl,h.se 10 [1,2,3,4,5,6,7,8,9]⟩
def N1(K:Nat)(p0:af)(cK:ae)(aq:Int)(p1:aA):Option (ah×af×ae):=
 pQ (dP p0 cK aq) (λiw nQ dw iv=>(if iw=17 then if aZ aq dw.aa.length then iQ (eM dw iv aq) (λsW z8=>some (sW,z8,iv))else none else(if iw=16 then if aZ aq dw.aa.length then(if(ag dw.aa aq.toNat).tries<3 then some ((⟨0,0,0,0,0,0⟩:ah),{dw with aa:=dw.aa.set aq.toNat ({ag dw.aa aq.toNat with aJ:=9})},iv)else bH (ig K dw iv aq) (λyF=>some ((⟨0,0,0,0,0,0⟩:ah),yF,iv)))else none else if aZ aq dw.aa.length then iQ (NA dw iv aq) (λug pB=>some (ug,pB,iv))else none)))
theorem P3{K:Nat}{p0 q0:af}{cK Oq:ae}{aq:Int}{p1:aA}{B0 Nc NJ NO N6 NU Nb M9 B1:Nat}{NK NG N2 NR Nu MS:Option Addr}{r0:ah}(H:N1 K p0 cK aq p1=some (r0,q0,Oq))(h:ft_ z (aed B0 p0 (.iface 33 (pA Nc 0)) N2 N6 NR NU Nu Nb MS M9 (aa8 Nc cK NK NJ NG NO (Rr B1 p1::L))) w)(FG:aZ aq p0.aa.length) :
 c4_ 96 #[pA (Cp MS) (aq.toNat*188),.iface 42 (pA B1 0)] w z (NL r0) λNq Nr Ns Nt=>aed B0 q0 (.iface 33 (pA Nc 0)) N2 N6 NR NU Nu Nb MS M9 (aa8 Nc Oq Nq Nr Ns Nt (Rr B1 p1::L)):=by
 unfold N1 at H;refine ke Tryz.func96 32 rfl λj=>ks<|kN h (acF) 47 λOP w h=>kn<|wq<|ks<|Ze H λiw nQ dw iv UQ H=>ko [U]<|qh h.m8.m8.m8.m8.m8.m8.m8.m8 λh=>GR (Qc (FG:=FG) (H:=UQ) (h:=h) :) λRh Rc QU Py w h=>ko [.tuple #[vI iw,vI nQ],U,U,U,U]<|kn<|ks<|ko [U]<|kn<|wb<|ks<|ko [vB (iw==17),vB (iw==17)]<|kn<|NN H (λTj H=>?_) λTj H=>?_
 ·refine ks<|qg H λTH H=>RD H λsW z8 GK H=>ko [U]<|N5 (Qv (FG:=TH) (H:=GK) (h:=h) :) λw h=>qh h.m8 λh=>kA h (N8 OP sW) λw h=>kn<|wr<|br<|tr<|kC h<|?_;cases H;exact⟨Rh,Rc,QU,Py,rfl,h.se 10 [1,2,3,4,5,6,7,8,9]⟩
 refine ks<|ko [vB (iw==16),vB (iw==16)]<|kn<|NN H (λT7 H=>?_) λT7 H=>?_
 ·refine wq<|ks<|qg H λUo H=>ko mT<|λ_ r=>ld (wn rfl) r (vI (MR dw aq).tries) ((h.pick 4).Ng (sz:=188) (i:=aq.toNat) (MQ B0) (f:=7) (zN Uo) (by kernel_rfl))<|?_;refine ko [vB (decide ((MR dw aq).tries<3))]<|kn<|NN H (λRa H=>?_) λRa H=>?_
  ·refine wl<|ko mT<|qh h.m4 λh=>λ_ r=>agx r rfl (vI 9) (MQ B0) h aq.toNat 2 (MR dw aq) ({MR dw aq with aJ:=9}) (zN Uo) λw h=>qq r<|kn<|ks<|ko [U]<|qh h.m8 λh=>kA h (pts OP (.cells acF 47)) λw h=>kn<|wr<|br<|tr<|kC h<|qh h.m2.m2 λh=>?_;replace h:=h.oH (λq_=>acE B0 dw (.iface 33 (pA Nc 0)) N2 N6 NR NU Nu Nb MS M9 q_);cases H;exact⟨Rh,Rc,QU,Py,rfl,h.se 10 [1,3,4,5,0,6,7,8,9]⟩
  refine wl<|Oj H λyF e33 H=>ko [U]<|N5 (Rz (FG:=Uo) (H:=e33) (h:=h) :) λw h=>kn<|ks<|ko [U]<|qh h.m8 λh=>kA h (pts OP (.cells acF 47)) λw h=>kn<|wr<|br<|tr<|kC h<|?_;cases H;exact⟨Rh,Rc,QU,Py,rfl,h.se 10 [1,2,3,4,5,6,7,8,9]⟩
 refine wk<|bn<|tn<|ks<|qg H λUC H=>RD H λug pB GJ H=>ko [U]<|N5 (ND (FG:=UC) (H:=GJ) (h:=h) :) λw h=>qh h.m8 λh=>kA h (N8 OP ug) λw h=>kn<|wr<|kC h<|?_;cases H;exact⟨Rh,Rc,QU,Py,rfl,h.se 10 [1,2,3,4,5,6,7,8,9]⟩
def aE(K:Nat)(p0:af)(cK:ae)(p1:Int)(p2:aA):Option (ah×Int×af×ae×aA):=
 kQ (some (.inl ())) (kQ ((if p1<0 then some (.inr ((⟨0,0,0,0,0,0⟩:ah),3,p0,cK,p2))else(if p1>=((p0.aa.length:Nat):Int)then some (.inr ((⟨0,0,0,0,0,0⟩:ah),3,p0,cK,p2))else some (.inl ())))) (if aZ p1 p0.aa.length then if aZ (MR p0 p1).aJ zS.length then(if(ag zS (MR p0 p1).aJ.toNat)=true then some ((⟨0,0,0,0,0,0⟩:ah),0,p0,cK,p2)else wo (OM) ((if(MR p0 p1).aJ=0 then gh (eA p0 cK p1 p2) (λsW z8 yC=>(if sW.aQ=0 then some (sW,0,z8,yC,p2)else some ({sW with Qm:=p1},0,z8,yC,p2)))else(if(MR p0 p1).aJ=1 then gh (eV p0 cK p1 p2) (λrC yl Cz=>(if rC.aQ=0 then some (rC,0,yl,Cz,p2)else some ({rC with Qm:=p1},0,yl,Cz,p2)))else(if(MR p0 p1).aJ=2 then gh (eL p0 cK p1 p2) (λBr FV z9=>(if Br.aQ=0 then some (Br,0,FV,z9,p2)else some ({Br with Qm:=p1},0,FV,z9,p2)))else(if(MR p0 p1).aJ=3 then gh (aU p0 cK p1 p2) (λHz Jk Jl=>(if Hz.aQ=0 then some (Hz,0,Jk,Jl,p2)else some ({Hz with Qm:=p1},0,Jk,Jl,p2)))else(if(MR p0 p1).aJ=4 then gh (bL p0 cK p1 p2) (λDS Cy FO=>(if DS.aQ=0 then some (DS,0,Cy,FO,p2)else some ({DS with Qm:=p1},0,Cy,FO,p2)))else(if(MR p0 p1).aJ=5 then gh (bj p0 cK p1 p2) (λHA Jm FX=>(if HA.aQ=0 then some (HA,0,Jm,FX,p2)else some ({HA with Qm:=p1},0,Jm,FX,p2)))else(if(MR p0 p1).aJ=6 then gh (bV p0 cK p1 p2) (λDP FY Jn=>(if DP.aQ=0 then some (DP,0,FY,Jn,p2)else some ({DP with Qm:=p1},0,FY,Jn,p2)))else(if(MR p0 p1).aJ=7 then gh (N0 p0 cK p1 p2) (λBv DU DV=>(if Bv.aQ=0 then some (Bv,0,DU,DV,p2)else some ({Bv with Qm:=p1},0,DU,DV,p2)))else(if(MR p0 p1).aJ=8 then gh (be p0 cK p1 p2) (λwZ DW DX=>(if wZ.aQ=0 then some (wZ,0,DW,DX,p2)else some ({wZ with Qm:=p1},0,DW,DX,p2)))else(if(MR p0 p1).aJ=9 then pQ (Oe K p0 cK p1 p2) (λvp w4 DY DZ=>(if vp.aQ=0 then some (vp,0,w4,DY,DZ)else some ({vp with Qm:=p1},0,w4,DY,DZ)))else(if(MR p0 p1).aJ=10 then gh (aY p0 cK p1 p2) (λBw D0 D1=>(if Bw.aQ=0 then some (Bw,0,D0,D1,p2)else some ({Bw with Qm:=p1},0,D0,D1,p2)))else(if(MR p0 p1).aJ=11 then gh (N1 K p0 cK p1 p2) (λBx D2 D3=>(if Bx.aQ=0 then some (Bx,0,D2,D3,p2)else some ({Bx with Qm:=p1},0,D2,D3,p2)))else(if(MR p0 p1).aJ=12 then gh (aP p0 cK p1 p2) (λw5 D4 D5=>(if w5.aQ=0 then some (w5,0,D4,D5,p2)else some ({w5 with Qm:=p1},0,D4,D5,p2)))else(if(MR p0 p1).aJ=13 then none else(if(MR p0 p1).aJ=14 then none else none)))))))))))))))))else none else none))
theorem RS{K:Nat}{p0 q0:af}{cK Oq:ae}{p1 r1:Int}{p2 q2:aA}{B0 Nc NJ NO N6 NU Nb M9 B2:Nat}{NK NG N2 NR Nu MS:Option Addr}{r0:ah}(H:aE K p0 cK p1 p2=some (r0,r1,q0,Oq,q2))(h:ft_ z (aed B0 p0 (.iface 33 (pA Nc 0)) N2 N6 NR NU Nu Nb MS M9 (aa8 Nc cK NK NJ NG NO (Rr B2 p2::L))) w)(CF:jJ L 1 wu (some ⟨0,0,none⟩) zS) :
 c4_ 21 #[pA B0 0,vI p1,.iface 42 (pA B2 0)] w z (.tuple #[NL r0,vI r1]) λNq Nr Ns Nt=>aed B0 q0 (.iface 33 (pA Nc 0)) N2 N6 NR NU Nu Nb MS M9 (aa8 Nc Oq Nq Nr Ns Nt (Rr B2 q2::L)):=by
 unfold aE at H;refine ke Tryz.func21 57 rfl λj=>ks<|kN h (acF) 47 λOP w h=>ko [U]<|kn<|?_;obtain⟨o15,H,aeD⟩:=U3 H;refine λ_ r=>Nn (β:=Unit) (λ_ a w=>.inl ()=o15/\∃j,Gk 57 (lk [(0,pA B0 0),(1,vI p1),(2,.iface 42 (pA B2 0)),(6,pA OP 0)] j) a/\Fit z (cQ (Od B0 p0 (.iface 33 (pA Nc 0)) N2 N6 NR NU Nu Nb MS M9::aa8 Nc cK NK NJ NG NO (Oo N2 N6 p0.code::NV NR NU p0.dW::NY Nu Nb p0.ak::NW B0 MS M9 p0.aa::Rr B2 p2::pts OP (.cells acF 47)::L))) w) ?_ ?_
 ·refine qq r<|ks<|ko mT<|Nl (rfl:false=false) [13,14] [.iface 42 (pA B2 0),vB false]<|ko [U]<|kn<|λ_ r=>O3 r (b:=false) rfl<|qq r<|wk<|tn<|?_;exact λ_ r=>⟨(),On H,r.fj (h.se 10 [1,6,7,8,2,3,4,5,9,0])⟩
 clear h r;rintro _ a w ⟨rfl,j,r,h⟩;replace H:=U4 aeD;obtain⟨o17,H,Xi⟩:=U3 H;refine Nn (β:=Unit) (λ_ a w=>.inl ()=o17/\∃j,Gk 57 (lk [(0,pA B0 0),(1,vI p1),(2,.iface 42 (pA B2 0)),(6,pA OP 0)] j) a/\Fit z (cQ (Od B0 p0 (.iface 33 (pA Nc 0)) N2 N6 NR NU Nu Nb MS M9::aa8 Nc cK NK NJ NG NO (Oo N2 N6 p0.code::NV NR NU p0.dW::NY Nu Nb p0.ak::NW B0 MS M9 p0.aa::Rr B2 p2::pts OP (.cells acF 47)::L))) w) ?_ ?_
 ·refine qq r<|ks<|ko [U,vB (decide (p1<0)),vB (decide (p1<0))]<|qI H (λXe H=>?_) λXe H=>?_
  ·refine Nh (dT Xe) [20,21,22,23,24,25,26]<|PT (dT Xe) (vB true)<|kn<|λ_ r=>Oh r (b:=true) rfl<|qq r<|ks<|ko [U]<|qh h.m9 λh=>kA h (pts OP (.cells acF 47)) λw h=>ko [U]<|kn<|wr<|tr<|λ_ r=>agZ z6_ (vI 3) rfl r (h.held 0 rfl)<|?_;replace H:=Q6 H Xi;obtain⟨rfl,rfl,rfl,rfl,rfl⟩:=UE H;exact⟨NK,NJ,NG,NO,rfl,h.se 10 [1,5,6,7,8,2,3,4,9]⟩
  refine Nl (dF Xe) [20,21,22,23] [vI p1,pA B0 0,pA B0 0,pA B0 9]<|Q7 (dF Xe) h 9<|Nl (dF Xe) [25,26] [vI ((p0.aa.length:Nat):Int),vB (decide (p1>=((p0.aa.length:Nat):Int)))]<|PM (dF Xe) (vB (decide (p1>=((p0.aa.length:Nat):Int))))<|kn<|NN H (λQO H=>?_) λQO H=>?_
  ·refine ks<|ko [U]<|qh h.m9 λh=>kA h (pts OP (.cells acF 47)) λw h=>ko [U]<|kn<|wr<|tr<|λ_ r=>agZ z6_ (vI 3) rfl r (h.held 0 rfl)<|?_;replace H:=Q6 H Xi;obtain⟨rfl,rfl,rfl,rfl,rfl⟩:=UE H;exact⟨NK,NJ,NG,NO,rfl,h.se 10 [1,5,6,7,8,2,3,4,9]⟩
  refine wk<|tn<|?_;exact λ_ r=>⟨(),On H,r.fj h⟩
 clear h r;rintro _ a w ⟨rfl,j,r,h⟩;replace H:=U4 Xi;refine qq r<|ks<|ko mT<|kL h 9<|qg H λPx H=>ko [U]<|ki (h.pick 7) Px<|ko [U]<|kn<|wq<|ks<|ko mT<|λ_ r=>ld (wn rfl) r (vI (MR p0 p1).aJ) ((h.pick 7).Ng (sz:=188) (i:=p1.toNat) (MQ B0) (f:=2) (zN Px) (by kernel_rfl))<|?_;refine qg H λQt H=>kp (pA (Cp (some ⟨0,0,none⟩)) ((MR p0 p1).aJ.toNat*1)) (Za (xs:=zS) (k:=.i64) (E:=4) rfl (by kernel_rfl) (by kernel_rfl) (by kernel_rfl) (by kernel_rfl) rfl Qt)<|λ_ r=>ld (wn rfl) r (vB (ag zS (MR p0 p1).aJ.toNat)) (CF.Wc Qt (h.dn 10) 0 rfl)<|?_;refine kn<|V4 H (λUn H=>?_) λUn H=>?_
 ·refine ks<|ko [U]<|qh h.m9 λh=>kA h (pts OP (.cells acF 47)) λw h=>ko [U]<|kn<|wr<|tr<|λ_ r=>agZ z6_ (vI 0) rfl r (h.held 0 rfl)<|?_;obtain⟨rfl,rfl,rfl,rfl,rfl⟩:=UE H;exact⟨NK,NJ,NG,NO,rfl,h.se 10 [1,5,6,7,8,2,3,4,9]⟩
 refine wk<|tn<|wq<|qb0 H λTI H=>qI H (λTH H=>?_) λTH H=>?_
 ·refine QW H λsW z8 yC BA H=>λ_ r=>Qh (λa w=>∃U7:Option Addr,∃XE:Nat,∃XF:Option Addr,∃Ct:Nat,∃XZ:Nat,∃j,Gk 57 (lk [(1,vI p1),(6,pA OP 0),(9,pA XZ 0)] j) a/\Fit z (cQ (pts OP (.cells acF 47)::N8 XZ sW::Od B0 z8 (.iface 33 (pA Nc 0)) N2 N6 NR NU Nu Nb MS M9::aa8 Nc yC U7 XE XF Ct (Oo N2 N6 z8.code::NV NR NU z8.dW::NY Nu Nb z8.ak::NW B0 MS M9 z8.aa::Rr B2 p2::L))) w) ?_ ?_
  ·refine Ob [(Cp MS,p1.toNat*188+2,[vI (MR p0 p1).aJ])] [0,2,3] 11 h (λh=>⟨((h.pick 7).ad8 2 p1 (zN Px) [vI (MR p0 p1).aJ]),CH⟩) λw h hd =>qq r<|Oi hd 6 [(1,43,pA (Cp MS) (p1.toNat*188)),(2,44,pA (Cp MS) (p1.toNat*188)),(3,45,pA (Cp MS) (p1.toNat*188+2)),(6,48,pA (Cp MS) (p1.toNat*188)),(7,49,.iface 42 (pA B2 0))]<|kx hd 0 5 4 rfl rfl<|λ_ r=>Pw (fuel:=4) [0,9] (by kernel_rfl) rfl (Nj ⟨_,rfl,?_⟩ (Nj ⟨_,rfl,?_⟩ (OH)))
   ·refine qq r<|N5 (Nv (H:=TI) (h:=h) :) λw h=>kn<|λ_ r=>eE ⟨((h.pick 7).ad8 2 p1 (zN Px) [vI (MR p0 p1).aJ]),CH⟩ λhd =>qq r<|eo_ hd 3 5 rfl (.func (.func 85) #[] #[]) (λw=>afo rfl TH)<|λ_ r=>Pw (fuel:=2) [8,9] (by kernel_rfl) rfl (Nj ⟨_,rfl,?_⟩ (Nj ⟨_,rfl,?_⟩ (OH)))
    ·refine qh h.m8.m4.m4.m4.m8.m8.m8.m8.m8 λh=>qq r<|GR (PR (FG:=Px) (H:=BA) (h:=h) :) λU7 XE XF Ct w h=>kn<|λ_ r=>xE<|N3 9 rfl<|qq r<|kN h (acF) 47 λXZ w h=>kn<|λ_ r=>xE<|N3 10 rfl<|qq r<|kA h (N8 XZ sW) λw h=>kn<|λ_ r=>xE<|O4<|?_;exact⟨U7,XE,XF,Ct,XZ,r.fj (h.se 11 [10,0,1,6,7,8,2,3,4,5,9])⟩
    refine qq r<|kN h (acF) 47 λXZ w h=>kn<|λ_ r=>xE<|N3 8 rfl<|qh h.m9.m5.m5.m5.m9.m9.m9.m9.m9 λh=>qq r<|GR (PR (FG:=Px) (H:=BA) (h:=h) :) λU7 XE XF Ct w h=>kn<|λ_ r=>xE<|N3 10 rfl<|qh h.m9 λh=>qq r<|kA h (N8 XZ sW) λw h=>kn<|λ_ r=>xE<|O4<|?_;exact⟨U7,XE,XF,Ct,XZ,r.fj (h.se 11 [10,0,1,6,7,8,2,3,4,5,9])⟩
   refine qq r<|kN h (acF) 47 λXZ w h=>kn<|λ_ r=>xE<|N3 0 rfl<|qq r<|N5 (Nv (H:=TI) (h:=h) :) λw h=>kn<|λ_ r=>eE ⟨((h.pick 8).ad8 2 p1 (zN Px) [vI (MR p0 p1).aJ]),CH⟩ λhd =>qq r<|eo_ hd 2 5 rfl (.func (.func 85) #[] #[]) (λw=>afo rfl TH)<|λ_ r=>N3 8 rfl<|qh h.m9.m5.m5.m5.m9.m9.m9.m9.m9 λh=>qq r<|GR (PR (FG:=Px) (H:=BA) (h:=h) :) λU7 XE XF Ct w h=>kn<|λ_ r=>xE<|N3 10 rfl<|qh h.m9 λh=>qq r<|kA h (N8 XZ sW) λw h=>kn<|λ_ r=>xE<|O4<|?_;exact⟨U7,XE,XF,Ct,XZ,r.fj (h.se 11 [10,0,1,6,7,8,2,3,4,5,9])⟩
  clear h r;rintro a w ⟨U7,XE,XF,Ct,XZ,j,r,h⟩;refine qq r<|tn<|wq<|ks<|ko [U]<|kL (h.pick 1) 2<|ko [vB (sW.aQ != 0)]<|kn<|Qf H (λUC H=>?_) λUC H=>?_
  ·refine wk<|tn<|ks<|kM (h.pick 1)<|kA h (N8 OP sW) λw h=>ko [U]<|kn<|wr<|λ_ r=>agZ (Nz sW) (vI 0) rfl r (h.held 0 rfl)<|?_;obtain⟨rfl,rfl,rfl,rfl,rfl⟩:=UE H;exact⟨U7,XE,XF,Ct,rfl,h.se 11 [2,6,7,8,9,3,4,5,10]⟩
  refine wl<|ko Zy<|qh h.m1 λh=>kS h 1 (N8 XZ {sW with Qm:=p1}) λw h=>kn<|ks<|kM h<|qh h.m1 λh=>kA h (N8 OP {sW with Qm:=p1}) λw h=>ko [U]<|kn<|wr<|λ_ r=>agZ (Nz {sW with Qm:=p1}) (vI 0) rfl r (h.held 0 rfl)<|?_;obtain⟨rfl,rfl,rfl,rfl,rfl⟩:=UE H;exact⟨U7,XE,XF,Ct,rfl,h.se 11 [2,6,7,8,9,3,4,5,10]⟩
 refine qI H (λUS H=>?_) λUS H=>?_
 ·refine QW H λrC yl Cz e39 H=>λ_ r=>Qh (λa w=>∃TL:Option Addr,∃Ub:Nat,∃Xk:Option Addr,∃ZZ:Nat,∃ZV:Nat,∃j,Gk 57 (lk [(1,vI p1),(6,pA OP 0),(9,pA ZV 0)] j) a/\Fit z (cQ (pts OP (.cells acF 47)::N8 ZV rC::Od B0 yl (.iface 33 (pA Nc 0)) N2 N6 NR NU Nu Nb MS M9::aa8 Nc Cz TL Ub Xk ZZ (Oo N2 N6 yl.code::NV NR NU yl.dW::NY Nu Nb yl.ak::NW B0 MS M9 yl.aa::Rr B2 p2::L))) w) ?_ ?_
  ·refine Ob [(Cp MS,p1.toNat*188+2,[vI (MR p0 p1).aJ])] [0,2,3] 11 h (λh=>⟨((h.pick 7).ad8 2 p1 (zN Px) [vI (MR p0 p1).aJ]),CH⟩) λw h hd =>qq r<|Oi hd 6 [(1,43,pA (Cp MS) (p1.toNat*188)),(2,44,pA (Cp MS) (p1.toNat*188)),(3,45,pA (Cp MS) (p1.toNat*188+2)),(6,48,pA (Cp MS) (p1.toNat*188)),(7,49,.iface 42 (pA B2 0))]<|kx hd 0 5 4 rfl rfl<|λ_ r=>Pw (fuel:=4) [0,9] (by kernel_rfl) rfl (Nj ⟨_,rfl,?_⟩ (Nj ⟨_,rfl,?_⟩ (OH)))
   ·refine qq r<|N5 (Nv (H:=TI) (h:=h) :) λw h=>kn<|λ_ r=>eE ⟨((h.pick 7).ad8 2 p1 (zN Px) [vI (MR p0 p1).aJ]),CH⟩ λhd =>qq r<|eo_ hd 3 5 rfl (.func (.func 86) #[] #[]) (λw=>afo rfl US)<|λ_ r=>Pw (fuel:=2) [8,9] (by kernel_rfl) rfl (Nj ⟨_,rfl,?_⟩ (Nj ⟨_,rfl,?_⟩ (OH)))
    ·refine qh h.m8.m4.m4.m4.m8.m8.m8.m8.m8 λh=>qq r<|GR (P5 (FG:=Px) (H:=e39) (h:=h) :) λTL Ub Xk ZZ w h=>kn<|λ_ r=>xE<|N3 9 rfl<|qq r<|kN h (acF) 47 λZV w h=>kn<|λ_ r=>xE<|N3 10 rfl<|qq r<|kA h (N8 ZV rC) λw h=>kn<|λ_ r=>xE<|O4<|?_;exact⟨TL,Ub,Xk,ZZ,ZV,r.fj (h.se 11 [10,0,1,6,7,8,2,3,4,5,9])⟩
    refine qq r<|kN h (acF) 47 λZV w h=>kn<|λ_ r=>xE<|N3 8 rfl<|qh h.m9.m5.m5.m5.m9.m9.m9.m9.m9 λh=>qq r<|GR (P5 (FG:=Px) (H:=e39) (h:=h) :) λTL Ub Xk ZZ w h=>kn<|λ_ r=>xE<|N3 10 rfl<|qh h.m9 λh=>qq r<|kA h (N8 ZV rC) λw h=>kn<|λ_ r=>xE<|O4<|?_;exact⟨TL,Ub,Xk,ZZ,ZV,r.fj (h.se 11 [10,0,1,6,7,8,2,3,4,5,9])⟩
   refine qq r<|kN h (acF) 47 λZV w h=>kn<|λ_ r=>xE<|N3 0 rfl<|qq r<|N5 (Nv (H:=TI) (h:=h) :) λw h=>kn<|λ_ r=>eE ⟨((h.pick 8).ad8 2 p1 (zN Px) [vI (MR p0 p1).aJ]),CH⟩ λhd =>qq r<|eo_ hd 2 5 rfl (.func (.func 86) #[] #[]) (λw=>afo rfl US)<|λ_ r=>N3 8 rfl<|qh h.m9.m5.m5.m5.m9.m9.m9.m9.m9 λh=>qq r<|GR (P5 (FG:=Px) (H:=e39) (h:=h) :) λTL Ub Xk ZZ w h=>kn<|λ_ r=>xE<|N3 10 rfl<|qh h.m9 λh=>qq r<|kA h (N8 ZV rC) λw h=>kn<|λ_ r=>xE<|O4<|?_;exact⟨TL,Ub,Xk,ZZ,ZV,r.fj (h.se 11 [10,0,1,6,7,8,2,3,4,5,9])⟩
  clear h r;rintro a w ⟨TL,Ub,Xk,ZZ,ZV,j,r,h⟩;refine qq r<|tn<|wq<|ks<|ko [U]<|kL (h.pick 1) 2<|ko [vB (rC.aQ != 0)]<|kn<|Qf H (λc45 H=>?_) λc45 H=>?_
  ·refine wk<|tn<|ks<|kM (h.pick 1)<|kA h (N8 OP rC) λw h=>ko [U]<|kn<|wr<|λ_ r=>agZ (Nz rC) (vI 0) rfl r (h.held 0 rfl)<|?_;obtain⟨rfl,rfl,rfl,rfl,rfl⟩:=UE H;exact⟨TL,Ub,Xk,ZZ,rfl,h.se 11 [2,6,7,8,9,3,4,5,10]⟩
  refine wl<|ko Zy<|qh h.m1 λh=>kS h 1 (N8 ZV {rC with Qm:=p1}) λw h=>kn<|ks<|kM h<|qh h.m1 λh=>kA h (N8 OP {rC with Qm:=p1}) λw h=>ko [U]<|kn<|wr<|λ_ r=>agZ (Nz {rC with Qm:=p1}) (vI 0) rfl r (h.held 0 rfl)<|?_;obtain⟨rfl,rfl,rfl,rfl,rfl⟩:=UE H;exact⟨TL,Ub,Xk,ZZ,rfl,h.se 11 [2,6,7,8,9,3,4,5,10]⟩
 refine qI H (λc46 H=>?_) λc46 H=>?_
 ·refine QW H λBr FV z9 e50 H=>λ_ r=>Qh (λa w=>∃x51:Option Addr,∃Zt:Nat,∃Yk:Option Addr,∃Yl:Nat,∃b55:Nat,∃j,Gk 57 (lk [(1,vI p1),(6,pA OP 0),(9,pA b55 0)] j) a/\Fit z (cQ (pts OP (.cells acF 47)::N8 b55 Br::Od B0 FV (.iface 33 (pA Nc 0)) N2 N6 NR NU Nu Nb MS M9::aa8 Nc z9 x51 Zt Yk Yl (Oo N2 N6 FV.code::NV NR NU FV.dW::NY Nu Nb FV.ak::NW B0 MS M9 FV.aa::Rr B2 p2::L))) w) ?_ ?_
  ·refine Ob [(Cp MS,p1.toNat*188+2,[vI (MR p0 p1).aJ])] [0,2,3] 11 h (λh=>⟨((h.pick 7).ad8 2 p1 (zN Px) [vI (MR p0 p1).aJ]),CH⟩) λw h hd =>qq r<|Oi hd 6 [(1,43,pA (Cp MS) (p1.toNat*188)),(2,44,pA (Cp MS) (p1.toNat*188)),(3,45,pA (Cp MS) (p1.toNat*188+2)),(6,48,pA (Cp MS) (p1.toNat*188)),(7,49,.iface 42 (pA B2 0))]<|kx hd 0 5 4 rfl rfl<|λ_ r=>Pw (fuel:=4) [0,9] (by kernel_rfl) rfl (Nj ⟨_,rfl,?_⟩ (Nj ⟨_,rfl,?_⟩ (OH)))
   ·refine qq r<|N5 (Nv (H:=TI) (h:=h) :) λw h=>kn<|λ_ r=>eE ⟨((h.pick 7).ad8 2 p1 (zN Px) [vI (MR p0 p1).aJ]),CH⟩ λhd =>qq r<|eo_ hd 3 5 rfl (.func (.func 87) #[] #[]) (λw=>afo rfl c46)<|λ_ r=>Pw (fuel:=2) [8,9] (by kernel_rfl) rfl (Nj ⟨_,rfl,?_⟩ (Nj ⟨_,rfl,?_⟩ (OH)))
    ·refine qh h.m8.m4.m4.m4.m8.m8.m8.m8.m8 λh=>qq r<|GR (PY (FG:=Px) (H:=e50) (h:=h) :) λx51 Zt Yk Yl w h=>kn<|λ_ r=>xE<|N3 9 rfl<|qq r<|kN h (acF) 47 λb55 w h=>kn<|λ_ r=>xE<|N3 10 rfl<|qq r<|kA h (N8 b55 Br) λw h=>kn<|λ_ r=>xE<|O4<|?_;exact⟨x51,Zt,Yk,Yl,b55,r.fj (h.se 11 [10,0,1,6,7,8,2,3,4,5,9])⟩
    refine qq r<|kN h (acF) 47 λb55 w h=>kn<|λ_ r=>xE<|N3 8 rfl<|qh h.m9.m5.m5.m5.m9.m9.m9.m9.m9 λh=>qq r<|GR (PY (FG:=Px) (H:=e50) (h:=h) :) λx51 Zt Yk Yl w h=>kn<|λ_ r=>xE<|N3 10 rfl<|qh h.m9 λh=>qq r<|kA h (N8 b55 Br) λw h=>kn<|λ_ r=>xE<|O4<|?_;exact⟨x51,Zt,Yk,Yl,b55,r.fj (h.se 11 [10,0,1,6,7,8,2,3,4,5,9])⟩
   refine qq r<|kN h (acF) 47 λb55 w h=>kn<|λ_ r=>xE<|N3 0 rfl<|qq r<|N5 (Nv (H:=TI) (h:=h) :) λw h=>kn<|λ_ r=>eE ⟨((h.pick 8).ad8 2 p1 (zN Px) [vI (MR p0 p1).aJ]),CH⟩ λhd =>qq r<|eo_ hd 2 5 rfl (.func (.func 87) #[] #[]) (λw=>afo rfl c46)<|λ_ r=>N3 8 rfl<|qh h.m9.m5.m5.m5.m9.m9.m9.m9.m9 λh=>qq r<|GR (PY (FG:=Px) (H:=e50) (h:=h) :) λx51 Zt Yk Yl w h=>kn<|λ_ r=>xE<|N3 10 rfl<|qh h.m9 λh=>qq r<|kA h (N8 b55 Br) λw h=>kn<|λ_ r=>xE<|O4<|?_;exact⟨x51,Zt,Yk,Yl,b55,r.fj (h.se 11 [10,0,1,6,7,8,2,3,4,5,9])⟩
  clear h r;rintro a w ⟨x51,Zt,Yk,Yl,b55,j,r,h⟩;refine qq r<|tn<|wq<|ks<|ko [U]<|kL (h.pick 1) 2<|ko [vB (Br.aQ != 0)]<|kn<|Qf H (λc56 H=>?_) λc56 H=>?_
  ·refine wk<|tn<|ks<|kM (h.pick 1)<|kA h (N8 OP Br) λw h=>ko [U]<|kn<|wr<|λ_ r=>agZ (Nz Br) (vI 0) rfl r (h.held 0 rfl)<|?_;obtain⟨rfl,rfl,rfl,rfl,rfl⟩:=UE H;exact⟨x51,Zt,Yk,Yl,rfl,h.se 11 [2,6,7,8,9,3,4,5,10]⟩
  refine wl<|ko Zy<|qh h.m1 λh=>kS h 1 (N8 b55 {Br with Qm:=p1}) λw h=>kn<|ks<|kM h<|qh h.m1 λh=>kA h (N8 OP {Br with Qm:=p1}) λw h=>ko [U]<|kn<|wr<|λ_ r=>agZ (Nz {Br with Qm:=p1}) (vI 0) rfl r (h.held 0 rfl)<|?_;obtain⟨rfl,rfl,rfl,rfl,rfl⟩:=UE H;exact⟨x51,Zt,Yk,Yl,rfl,h.se 11 [2,6,7,8,9,3,4,5,10]⟩
 refine qI H (λc57 H=>?_) λc57 H=>?_
 ·refine QW H λHz Jk Jl e61 H=>λ_ r=>Qh (λa w=>∃ZX:Option Addr,∃x63:Nat,∃x64:Option Addr,∃Vi:Nat,∃Z0:Nat,∃j,Gk 57 (lk [(1,vI p1),(6,pA OP 0),(9,pA Z0 0)] j) a/\Fit z (cQ (pts OP (.cells acF 47)::N8 Z0 Hz::Od B0 Jk (.iface 33 (pA Nc 0)) N2 N6 NR NU Nu Nb MS M9::aa8 Nc Jl ZX x63 x64 Vi (Oo N2 N6 Jk.code::NV NR NU Jk.dW::NY Nu Nb Jk.ak::NW B0 MS M9 Jk.aa::Rr B2 p2::L))) w) ?_ ?_
  ·refine Ob [(Cp MS,p1.toNat*188+2,[vI (MR p0 p1).aJ])] [0,2,3] 11 h (λh=>⟨((h.pick 7).ad8 2 p1 (zN Px) [vI (MR p0 p1).aJ]),CH⟩) λw h hd =>qq r<|Oi hd 6 [(1,43,pA (Cp MS) (p1.toNat*188)),(2,44,pA (Cp MS) (p1.toNat*188)),(3,45,pA (Cp MS) (p1.toNat*188+2)),(6,48,pA (Cp MS) (p1.toNat*188)),(7,49,.iface 42 (pA B2 0))]<|kx hd 0 5 4 rfl rfl<|λ_ r=>Pw (fuel:=4) [0,9] (by kernel_rfl) rfl (Nj ⟨_,rfl,?_⟩ (Nj ⟨_,rfl,?_⟩ (OH)))
   ·refine qq r<|N5 (Nv (H:=TI) (h:=h) :) λw h=>kn<|λ_ r=>eE ⟨((h.pick 7).ad8 2 p1 (zN Px) [vI (MR p0 p1).aJ]),CH⟩ λhd =>qq r<|eo_ hd 3 5 rfl (.func (.func 88) #[] #[]) (λw=>afo rfl c57)<|λ_ r=>Pw (fuel:=2) [8,9] (by kernel_rfl) rfl (Nj ⟨_,rfl,?_⟩ (Nj ⟨_,rfl,?_⟩ (OH)))
    ·refine qh h.m8.m4.m4.m4.m8.m8.m8.m8.m8 λh=>qq r<|GR (PZ (FG:=Px) (H:=e61) (h:=h) :) λZX x63 x64 Vi w h=>kn<|λ_ r=>xE<|N3 9 rfl<|qq r<|kN h (acF) 47 λZ0 w h=>kn<|λ_ r=>xE<|N3 10 rfl<|qq r<|kA h (N8 Z0 Hz) λw h=>kn<|λ_ r=>xE<|O4<|?_;exact⟨ZX,x63,x64,Vi,Z0,r.fj (h.se 11 [10,0,1,6,7,8,2,3,4,5,9])⟩
    refine qq r<|kN h (acF) 47 λZ0 w h=>kn<|λ_ r=>xE<|N3 8 rfl<|qh h.m9.m5.m5.m5.m9.m9.m9.m9.m9 λh=>qq r<|GR (PZ (FG:=Px) (H:=e61) (h:=h) :) λZX x63 x64 Vi w h=>kn<|λ_ r=>xE<|N3 10 rfl<|qh h.m9 λh=>qq r<|kA h (N8 Z0 Hz) λw h=>kn<|λ_ r=>xE<|O4<|?_;exact⟨ZX,x63,x64,Vi,Z0,r.fj (h.se 11 [10,0,1,6,7,8,2,3,4,5,9])⟩
   refine qq r<|kN h (acF) 47 λZ0 w h=>kn<|λ_ r=>xE<|N3 0 rfl<|qq r<|N5 (Nv (H:=TI) (h:=h) :) λw h=>kn<|λ_ r=>eE ⟨((h.pick 8).ad8 2 p1 (zN Px) [vI (MR p0 p1).aJ]),CH⟩ λhd =>qq r<|eo_ hd 2 5 rfl (.func (.func 88) #[] #[]) (λw=>afo rfl c57)<|λ_ r=>N3 8 rfl<|qh h.m9.m5.m5.m5.m9.m9.m9.m9.m9 λh=>qq r<|GR (PZ (FG:=Px) (H:=e61) (h:=h) :) λZX x63 x64 Vi w h=>kn<|λ_ r=>xE<|N3 10 rfl<|qh h.m9 λh=>qq r<|kA h (N8 Z0 Hz) λw h=>kn<|λ_ r=>xE<|O4<|?_;exact⟨ZX,x63,x64,Vi,Z0,r.fj (h.se 11 [10,0,1,6,7,8,2,3,4,5,9])⟩
  clear h r;rintro a w ⟨ZX,x63,x64,Vi,Z0,j,r,h⟩;refine qq r<|tn<|wq<|ks<|ko [U]<|kL (h.pick 1) 2<|ko [vB (Hz.aQ != 0)]<|kn<|Qf H (λc67 H=>?_) λc67 H=>?_
  ·refine wk<|tn<|ks<|kM (h.pick 1)<|kA h (N8 OP Hz) λw h=>ko [U]<|kn<|wr<|λ_ r=>agZ (Nz Hz) (vI 0) rfl r (h.held 0 rfl)<|?_;obtain⟨rfl,rfl,rfl,rfl,rfl⟩:=UE H;exact⟨ZX,x63,x64,Vi,rfl,h.se 11 [2,6,7,8,9,3,4,5,10]⟩
  refine wl<|ko Zy<|qh h.m1 λh=>kS h 1 (N8 Z0 {Hz with Qm:=p1}) λw h=>kn<|ks<|kM h<|qh h.m1 λh=>kA h (N8 OP {Hz with Qm:=p1}) λw h=>ko [U]<|kn<|wr<|λ_ r=>agZ (Nz {Hz with Qm:=p1}) (vI 0) rfl r (h.held 0 rfl)<|?_;obtain⟨rfl,rfl,rfl,rfl,rfl⟩:=UE H;exact⟨ZX,x63,x64,Vi,rfl,h.se 11 [2,6,7,8,9,3,4,5,10]⟩
 refine qI H (λc68 H=>?_) λc68 H=>?_
 ·refine QW H λDS Cy FO e72 H=>λ_ r=>Qh (λa w=>∃x73:Option Addr,∃x74:Nat,∃x75:Option Addr,∃x76:Nat,∃b77:Nat,∃j,Gk 57 (lk [(1,vI p1),(6,pA OP 0),(9,pA b77 0)] j) a/\Fit z (cQ (pts OP (.cells acF 47)::N8 b77 DS::Od B0 Cy (.iface 33 (pA Nc 0)) N2 N6 NR NU Nu Nb MS M9::aa8 Nc FO x73 x74 x75 x76 (Oo N2 N6 Cy.code::NV NR NU Cy.dW::NY Nu Nb Cy.ak::NW B0 MS M9 Cy.aa::Rr B2 p2::L))) w) ?_ ?_
  ·refine Ob [(Cp MS,p1.toNat*188+2,[vI (MR p0 p1).aJ])] [0,2,3] 11 h (λh=>⟨((h.pick 7).ad8 2 p1 (zN Px) [vI (MR p0 p1).aJ]),CH⟩) λw h hd =>qq r<|Oi hd 6 [(1,43,pA (Cp MS) (p1.toNat*188)),(2,44,pA (Cp MS) (p1.toNat*188)),(3,45,pA (Cp MS) (p1.toNat*188+2)),(6,48,pA (Cp MS) (p1.toNat*188)),(7,49,.iface 42 (pA B2 0))]<|kx hd 0 5 4 rfl rfl<|λ_ r=>Pw (fuel:=4) [0,9] (by kernel_rfl) rfl (Nj ⟨_,rfl,?_⟩ (Nj ⟨_,rfl,?_⟩ (OH)))
   ·refine qq r<|N5 (Nv (H:=TI) (h:=h) :) λw h=>kn<|λ_ r=>eE ⟨((h.pick 7).ad8 2 p1 (zN Px) [vI (MR p0 p1).aJ]),CH⟩ λhd =>qq r<|eo_ hd 3 5 rfl (.func (.func 89) #[] #[]) (λw=>afo rfl c68)<|λ_ r=>Pw (fuel:=2) [8,9] (by kernel_rfl) rfl (Nj ⟨_,rfl,?_⟩ (Nj ⟨_,rfl,?_⟩ (OH)))
    ·refine qh h.m8.m4.m4.m4.m8.m8.m8.m8.m8 λh=>qq r<|GR (P0 (FG:=Px) (H:=e72) (h:=h) :) λx73 x74 x75 x76 w h=>kn<|λ_ r=>xE<|N3 9 rfl<|qq r<|kN h (acF) 47 λb77 w h=>kn<|λ_ r=>xE<|N3 10 rfl<|qq r<|kA h (N8 b77 DS) λw h=>kn<|λ_ r=>xE<|O4<|?_;exact⟨x73,x74,x75,x76,b77,r.fj (h.se 11 [10,0,1,6,7,8,2,3,4,5,9])⟩
    refine qq r<|kN h (acF) 47 λb77 w h=>kn<|λ_ r=>xE<|N3 8 rfl<|qh h.m9.m5.m5.m5.m9.m9.m9.m9.m9 λh=>qq r<|GR (P0 (FG:=Px) (H:=e72) (h:=h) :) λx73 x74 x75 x76 w h=>kn<|λ_ r=>xE<|N3 10 rfl<|qh h.m9 λh=>qq r<|kA h (N8 b77 DS) λw h=>kn<|λ_ r=>xE<|O4<|?_;exact⟨x73,x74,x75,x76,b77,r.fj (h.se 11 [10,0,1,6,7,8,2,3,4,5,9])⟩
   refine qq r<|kN h (acF) 47 λb77 w h=>kn<|λ_ r=>xE<|N3 0 rfl<|qq r<|N5 (Nv (H:=TI) (h:=h) :) λw h=>kn<|λ_ r=>eE ⟨((h.pick 8).ad8 2 p1 (zN Px) [vI (MR p0 p1).aJ]),CH⟩ λhd =>qq r<|eo_ hd 2 5 rfl (.func (.func 89) #[] #[]) (λw=>afo rfl c68)<|λ_ r=>N3 8 rfl<|qh h.m9.m5.m5.m5.m9.m9.m9.m9.m9 λh=>qq r<|GR (P0 (FG:=Px) (H:=e72) (h:=h) :) λx73 x74 x75 x76 w h=>kn<|λ_ r=>xE<|N3 10 rfl<|qh h.m9 λh=>qq r<|kA h (N8 b77 DS) λw h=>kn<|λ_ r=>xE<|O4<|?_;exact⟨x73,x74,x75,x76,b77,r.fj (h.se 11 [10,0,1,6,7,8,2,3,4,5,9])⟩
  clear h r;rintro a w ⟨x73,x74,x75,x76,b77,j,r,h⟩;refine qq r<|tn<|wq<|ks<|ko [U]<|kL (h.pick 1) 2<|ko [vB (DS.aQ != 0)]<|kn<|Qf H (λc78 H=>?_) λc78 H=>?_
  ·refine wk<|tn<|ks<|kM (h.pick 1)<|kA h (N8 OP DS) λw h=>ko [U]<|kn<|wr<|λ_ r=>agZ (Nz DS) (vI 0) rfl r (h.held 0 rfl)<|?_;obtain⟨rfl,rfl,rfl,rfl,rfl⟩:=UE H;exact⟨x73,x74,x75,x76,rfl,h.se 11 [2,6,7,8,9,3,4,5,10]⟩
  refine wl<|ko Zy<|qh h.m1 λh=>kS h 1 (N8 b77 {DS with Qm:=p1}) λw h=>kn<|ks<|kM h<|qh h.m1 λh=>kA h (N8 OP {DS with Qm:=p1}) λw h=>ko [U]<|kn<|wr<|λ_ r=>agZ (Nz {DS with Qm:=p1}) (vI 0) rfl r (h.held 0 rfl)<|?_;obtain⟨rfl,rfl,rfl,rfl,rfl⟩:=UE H;exact⟨x73,x74,x75,x76,rfl,h.se 11 [2,6,7,8,9,3,4,5,10]⟩
 refine qI H (λc79 H=>?_) λc79 H=>?_
 ·refine QW H λHA Jm FX e83 H=>λ_ r=>Qh (λa w=>∃ZY:Option Addr,∃Y4:Nat,∃Y5:Option Addr,∃Y6:Nat,∃b88:Nat,∃j,Gk 57 (lk [(1,vI p1),(6,pA OP 0),(9,pA b88 0)] j) a/\Fit z (cQ (pts OP (.cells acF 47)::N8 b88 HA::Od B0 Jm (.iface 33 (pA Nc 0)) N2 N6 NR NU Nu Nb MS M9::aa8 Nc FX ZY Y4 Y5 Y6 (Oo N2 N6 Jm.code::NV NR NU Jm.dW::NY Nu Nb Jm.ak::NW B0 MS M9 Jm.aa::Rr B2 p2::L))) w) ?_ ?_
  ·refine Ob [(Cp MS,p1.toNat*188+2,[vI (MR p0 p1).aJ])] [0,2,3] 11 h (λh=>⟨((h.pick 7).ad8 2 p1 (zN Px) [vI (MR p0 p1).aJ]),CH⟩) λw h hd =>qq r<|Oi hd 6 [(1,43,pA (Cp MS) (p1.toNat*188)),(2,44,pA (Cp MS) (p1.toNat*188)),(3,45,pA (Cp MS) (p1.toNat*188+2)),(6,48,pA (Cp MS) (p1.toNat*188)),(7,49,.iface 42 (pA B2 0))]<|kx hd 0 5 4 rfl rfl<|λ_ r=>Pw (fuel:=4) [0,9] (by kernel_rfl) rfl (Nj ⟨_,rfl,?_⟩ (Nj ⟨_,rfl,?_⟩ (OH)))
   ·refine qq r<|N5 (Nv (H:=TI) (h:=h) :) λw h=>kn<|λ_ r=>eE ⟨((h.pick 7).ad8 2 p1 (zN Px) [vI (MR p0 p1).aJ]),CH⟩ λhd =>qq r<|eo_ hd 3 5 rfl (.func (.func 90) #[] #[]) (λw=>afo rfl c79)<|λ_ r=>Pw (fuel:=2) [8,9] (by kernel_rfl) rfl (Nj ⟨_,rfl,?_⟩ (Nj ⟨_,rfl,?_⟩ (OH)))
    ·refine qh h.m8.m4.m4.m4.m8.m8.m8.m8.m8 λh=>qq r<|GR (Pp (FG:=Px) (H:=e83) (h:=h) :) λZY Y4 Y5 Y6 w h=>kn<|λ_ r=>xE<|N3 9 rfl<|qq r<|kN h (acF) 47 λb88 w h=>kn<|λ_ r=>xE<|N3 10 rfl<|qq r<|kA h (N8 b88 HA) λw h=>kn<|λ_ r=>xE<|O4<|?_;exact⟨ZY,Y4,Y5,Y6,b88,r.fj (h.se 11 [10,0,1,6,7,8,2,3,4,5,9])⟩
    refine qq r<|kN h (acF) 47 λb88 w h=>kn<|λ_ r=>xE<|N3 8 rfl<|qh h.m9.m5.m5.m5.m9.m9.m9.m9.m9 λh=>qq r<|GR (Pp (FG:=Px) (H:=e83) (h:=h) :) λZY Y4 Y5 Y6 w h=>kn<|λ_ r=>xE<|N3 10 rfl<|qh h.m9 λh=>qq r<|kA h (N8 b88 HA) λw h=>kn<|λ_ r=>xE<|O4<|?_;exact⟨ZY,Y4,Y5,Y6,b88,r.fj (h.se 11 [10,0,1,6,7,8,2,3,4,5,9])⟩
   refine qq r<|kN h (acF) 47 λb88 w h=>kn<|λ_ r=>xE<|N3 0 rfl<|qq r<|N5 (Nv (H:=TI) (h:=h) :) λw h=>kn<|λ_ r=>eE ⟨((h.pick 8).ad8 2 p1 (zN Px) [vI (MR p0 p1).aJ]),CH⟩ λhd =>qq r<|eo_ hd 2 5 rfl (.func (.func 90) #[] #[]) (λw=>afo rfl c79)<|λ_ r=>N3 8 rfl<|qh h.m9.m5.m5.m5.m9.m9.m9.m9.m9 λh=>qq r<|GR (Pp (FG:=Px) (H:=e83) (h:=h) :) λZY Y4 Y5 Y6 w h=>kn<|λ_ r=>xE<|N3 10 rfl<|qh h.m9 λh=>qq r<|kA h (N8 b88 HA) λw h=>kn<|λ_ r=>xE<|O4<|?_;exact⟨ZY,Y4,Y5,Y6,b88,r.fj (h.se 11 [10,0,1,6,7,8,2,3,4,5,9])⟩
  clear h r;rintro a w ⟨ZY,Y4,Y5,Y6,b88,j,r,h⟩;refine qq r<|tn<|wq<|ks<|ko [U]<|kL (h.pick 1) 2<|ko [vB (HA.aQ != 0)]<|kn<|Qf H (λc89 H=>?_) λc89 H=>?_
  ·refine wk<|tn<|ks<|kM (h.pick 1)<|kA h (N8 OP HA) λw h=>ko [U]<|kn<|wr<|λ_ r=>agZ (Nz HA) (vI 0) rfl r (h.held 0 rfl)<|?_;obtain⟨rfl,rfl,rfl,rfl,rfl⟩:=UE H;exact⟨ZY,Y4,Y5,Y6,rfl,h.se 11 [2,6,7,8,9,3,4,5,10]⟩
  refine wl<|ko Zy<|qh h.m1 λh=>kS h 1 (N8 b88 {HA with Qm:=p1}) λw h=>kn<|ks<|kM h<|qh h.m1 λh=>kA h (N8 OP {HA with Qm:=p1}) λw h=>ko [U]<|kn<|wr<|λ_ r=>agZ (Nz {HA with Qm:=p1}) (vI 0) rfl r (h.held 0 rfl)<|?_;obtain⟨rfl,rfl,rfl,rfl,rfl⟩:=UE H;exact⟨ZY,Y4,Y5,Y6,rfl,h.se 11 [2,6,7,8,9,3,4,5,10]⟩
 refine qI H (λc90 H=>?_) λc90 H=>?_
 ·refine QW H λDP FY Jn e94 H=>λ_ r=>Qh (λa w=>∃Zz:Option Addr,∃ZA:Nat,∃x97:Option Addr,∃x98:Nat,∃b99:Nat,∃j,Gk 57 (lk [(1,vI p1),(6,pA OP 0),(9,pA b99 0)] j) a/\Fit z (cQ (pts OP (.cells acF 47)::N8 b99 DP::Od B0 FY (.iface 33 (pA Nc 0)) N2 N6 NR NU Nu Nb MS M9::aa8 Nc Jn Zz ZA x97 x98 (Oo N2 N6 FY.code::NV NR NU FY.dW::NY Nu Nb FY.ak::NW B0 MS M9 FY.aa::Rr B2 p2::L))) w) ?_ ?_
  ·refine Ob [(Cp MS,p1.toNat*188+2,[vI (MR p0 p1).aJ])] [0,2,3] 11 h (λh=>⟨((h.pick 7).ad8 2 p1 (zN Px) [vI (MR p0 p1).aJ]),CH⟩) λw h hd =>qq r<|Oi hd 6 [(1,43,pA (Cp MS) (p1.toNat*188)),(2,44,pA (Cp MS) (p1.toNat*188)),(3,45,pA (Cp MS) (p1.toNat*188+2)),(6,48,pA (Cp MS) (p1.toNat*188)),(7,49,.iface 42 (pA B2 0))]<|kx hd 0 5 4 rfl rfl<|λ_ r=>Pw (fuel:=4) [0,9] (by kernel_rfl) rfl (Nj ⟨_,rfl,?_⟩ (Nj ⟨_,rfl,?_⟩ (OH)))
   ·refine qq r<|N5 (Nv (H:=TI) (h:=h) :) λw h=>kn<|λ_ r=>eE ⟨((h.pick 7).ad8 2 p1 (zN Px) [vI (MR p0 p1).aJ]),CH⟩ λhd =>qq r<|eo_ hd 3 5 rfl (.func (.func 91) #[] #[]) (λw=>afo rfl c90)<|λ_ r=>Pw (fuel:=2) [8,9] (by kernel_rfl) rfl (Nj ⟨_,rfl,?_⟩ (Nj ⟨_,rfl,?_⟩ (OH)))
    ·refine qh h.m8.m4.m4.m4.m8.m8.m8.m8.m8 λh=>qq r<|GR (PF (FG:=Px) (H:=e94) (h:=h) :) λZz ZA x97 x98 w h=>kn<|λ_ r=>xE<|N3 9 rfl<|qq r<|kN h (acF) 47 λb99 w h=>kn<|λ_ r=>xE<|N3 10 rfl<|qq r<|kA h (N8 b99 DP) λw h=>kn<|λ_ r=>xE<|O4<|?_;exact⟨Zz,ZA,x97,x98,b99,r.fj (h.se 11 [10,0,1,6,7,8,2,3,4,5,9])⟩
    refine qq r<|kN h (acF) 47 λb99 w h=>kn<|λ_ r=>xE<|N3 8 rfl<|qh h.m9.m5.m5.m5.m9.m9.m9.m9.m9 λh=>qq r<|GR (PF (FG:=Px) (H:=e94) (h:=h) :) λZz ZA x97 x98 w h=>kn<|λ_ r=>xE<|N3 10 rfl<|qh h.m9 λh=>qq r<|kA h (N8 b99 DP) λw h=>kn<|λ_ r=>xE<|O4<|?_;exact⟨Zz,ZA,x97,x98,b99,r.fj (h.se 11 [10,0,1,6,7,8,2,3,4,5,9])⟩
   refine qq r<|kN h (acF) 47 λb99 w h=>kn<|λ_ r=>xE<|N3 0 rfl<|qq r<|N5 (Nv (H:=TI) (h:=h) :) λw h=>kn<|λ_ r=>eE ⟨((h.pick 8).ad8 2 p1 (zN Px) [vI (MR p0 p1).aJ]),CH⟩ λhd =>qq r<|eo_ hd 2 5 rfl (.func (.func 91) #[] #[]) (λw=>afo rfl c90)<|λ_ r=>N3 8 rfl<|qh h.m9.m5.m5.m5.m9.m9.m9.m9.m9 λh=>qq r<|GR (PF (FG:=Px) (H:=e94) (h:=h) :) λZz ZA x97 x98 w h=>kn<|λ_ r=>xE<|N3 10 rfl<|qh h.m9 λh=>qq r<|kA h (N8 b99 DP) λw h=>kn<|λ_ r=>xE<|O4<|?_;exact⟨Zz,ZA,x97,x98,b99,r.fj (h.se 11 [10,0,1,6,7,8,2,3,4,5,9])⟩
  clear h r;rintro a w ⟨Zz,ZA,x97,x98,b99,j,r,h⟩;refine qq r<|tn<|wq<|ks<|ko [U]<|kL (h.pick 1) 2<|ko [vB (DP.aQ != 0)]<|kn<|Qf H (λacJ H=>?_) λacJ H=>?_
  ·refine wk<|tn<|ks<|kM (h.pick 1)<|kA h (N8 OP DP) λw h=>ko [U]<|kn<|wr<|λ_ r=>agZ (Nz DP) (vI 0) rfl r (h.held 0 rfl)<|?_;obtain⟨rfl,rfl,rfl,rfl,rfl⟩:=UE H;exact⟨Zz,ZA,x97,x98,rfl,h.se 11 [2,6,7,8,9,3,4,5,10]⟩
  refine wl<|ko Zy<|qh h.m1 λh=>kS h 1 (N8 b99 {DP with Qm:=p1}) λw h=>kn<|ks<|kM h<|qh h.m1 λh=>kA h (N8 OP {DP with Qm:=p1}) λw h=>ko [U]<|kn<|wr<|λ_ r=>agZ (Nz {DP with Qm:=p1}) (vI 0) rfl r (h.held 0 rfl)<|?_;obtain⟨rfl,rfl,rfl,rfl,rfl⟩:=UE H;exact⟨Zz,ZA,x97,x98,rfl,h.se 11 [2,6,7,8,9,3,4,5,10]⟩
 refine qI H (λacK H=>?_) λacK H=>?_
 ·refine QW H λBv DU DV abb H=>λ_ r=>Qh (λa w=>∃Uw:Option Addr,∃UX:Nat,∃VV:Option Addr,∃VW:Nat,∃Vm:Nat,∃j,Gk 57 (lk [(1,vI p1),(6,pA OP 0),(9,pA Vm 0)] j) a/\Fit z (cQ (pts OP (.cells acF 47)::N8 Vm Bv::Od B0 DU (.iface 33 (pA Nc 0)) N2 N6 NR NU Nu Nb MS M9::aa8 Nc DV Uw UX VV VW (Oo N2 N6 DU.code::NV NR NU DU.dW::NY Nu Nb DU.ak::NW B0 MS M9 DU.aa::Rr B2 p2::L))) w) ?_ ?_
  ·refine Ob [(Cp MS,p1.toNat*188+2,[vI (MR p0 p1).aJ])] [0,2,3] 11 h (λh=>⟨((h.pick 7).ad8 2 p1 (zN Px) [vI (MR p0 p1).aJ]),CH⟩) λw h hd =>qq r<|Oi hd 6 [(1,43,pA (Cp MS) (p1.toNat*188)),(2,44,pA (Cp MS) (p1.toNat*188)),(3,45,pA (Cp MS) (p1.toNat*188+2)),(6,48,pA (Cp MS) (p1.toNat*188)),(7,49,.iface 42 (pA B2 0))]<|kx hd 0 5 4 rfl rfl<|λ_ r=>Pw (fuel:=4) [0,9] (by kernel_rfl) rfl (Nj ⟨_,rfl,?_⟩ (Nj ⟨_,rfl,?_⟩ (OH)))
   ·refine qq r<|N5 (Nv (H:=TI) (h:=h) :) λw h=>kn<|λ_ r=>eE ⟨((h.pick 7).ad8 2 p1 (zN Px) [vI (MR p0 p1).aJ]),CH⟩ λhd =>qq r<|eo_ hd 3 5 rfl (.func (.func 92) #[] #[]) (λw=>afo rfl acK)<|λ_ r=>Pw (fuel:=2) [8,9] (by kernel_rfl) rfl (Nj ⟨_,rfl,?_⟩ (Nj ⟨_,rfl,?_⟩ (OH)))
    ·refine qh h.m8.m4.m4.m4.m8.m8.m8.m8.m8 λh=>qq r<|GR (P1 (FG:=Px) (H:=abb) (h:=h) :) λUw UX VV VW w h=>kn<|λ_ r=>xE<|N3 9 rfl<|qq r<|kN h (acF) 47 λVm w h=>kn<|λ_ r=>xE<|N3 10 rfl<|qq r<|kA h (N8 Vm Bv) λw h=>kn<|λ_ r=>xE<|O4<|?_;exact⟨Uw,UX,VV,VW,Vm,r.fj (h.se 11 [10,0,1,6,7,8,2,3,4,5,9])⟩
    refine qq r<|kN h (acF) 47 λVm w h=>kn<|λ_ r=>xE<|N3 8 rfl<|qh h.m9.m5.m5.m5.m9.m9.m9.m9.m9 λh=>qq r<|GR (P1 (FG:=Px) (H:=abb) (h:=h) :) λUw UX VV VW w h=>kn<|λ_ r=>xE<|N3 10 rfl<|qh h.m9 λh=>qq r<|kA h (N8 Vm Bv) λw h=>kn<|λ_ r=>xE<|O4<|?_;exact⟨Uw,UX,VV,VW,Vm,r.fj (h.se 11 [10,0,1,6,7,8,2,3,4,5,9])⟩
   refine qq r<|kN h (acF) 47 λVm w h=>kn<|λ_ r=>xE<|N3 0 rfl<|qq r<|N5 (Nv (H:=TI) (h:=h) :) λw h=>kn<|λ_ r=>eE ⟨((h.pick 8).ad8 2 p1 (zN Px) [vI (MR p0 p1).aJ]),CH⟩ λhd =>qq r<|eo_ hd 2 5 rfl (.func (.func 92) #[] #[]) (λw=>afo rfl acK)<|λ_ r=>N3 8 rfl<|qh h.m9.m5.m5.m5.m9.m9.m9.m9.m9 λh=>qq r<|GR (P1 (FG:=Px) (H:=abb) (h:=h) :) λUw UX VV VW w h=>kn<|λ_ r=>xE<|N3 10 rfl<|qh h.m9 λh=>qq r<|kA h (N8 Vm Bv) λw h=>kn<|λ_ r=>xE<|O4<|?_;exact⟨Uw,UX,VV,VW,Vm,r.fj (h.se 11 [10,0,1,6,7,8,2,3,4,5,9])⟩
  clear h r;rintro a w ⟨Uw,UX,VV,VW,Vm,j,r,h⟩;refine qq r<|tn<|wq<|ks<|ko [U]<|kL (h.pick 1) 2<|ko [vB (Bv.aQ != 0)]<|kn<|Qf H (λacL H=>?_) λacL H=>?_
  ·refine wk<|tn<|ks<|kM (h.pick 1)<|kA h (N8 OP Bv) λw h=>ko [U]<|kn<|wr<|λ_ r=>agZ (Nz Bv) (vI 0) rfl r (h.held 0 rfl)<|?_;obtain⟨rfl,rfl,rfl,rfl,rfl⟩:=UE H;exact⟨Uw,UX,VV,VW,rfl,h.se 11 [2,6,7,8,9,3,4,5,10]⟩
  refine wl<|ko Zy<|qh h.m1 λh=>kS h 1 (N8 Vm {Bv with Qm:=p1}) λw h=>kn<|ks<|kM h<|qh h.m1 λh=>kA h (N8 OP {Bv with Qm:=p1}) λw h=>ko [U]<|kn<|wr<|λ_ r=>agZ (Nz {Bv with Qm:=p1}) (vI 0) rfl r (h.held 0 rfl)<|?_;obtain⟨rfl,rfl,rfl,rfl,rfl⟩:=UE H;exact⟨Uw,UX,VV,VW,rfl,h.se 11 [2,6,7,8,9,3,4,5,10]⟩
 refine qI H (λaba H=>?_) λaba H=>?_
 ·refine QW H λwZ DW DX acM H=>λ_ r=>Qh (λa w=>∃Vn:Option Addr,∃WB:Nat,∃Vk:Option Addr,∃Vl:Nat,∃Vo:Nat,∃j,Gk 57 (lk [(1,vI p1),(6,pA OP 0),(9,pA Vo 0)] j) a/\Fit z (cQ (pts OP (.cells acF 47)::N8 Vo wZ::Od B0 DW (.iface 33 (pA Nc 0)) N2 N6 NR NU Nu Nb MS M9::aa8 Nc DX Vn WB Vk Vl (Oo N2 N6 DW.code::NV NR NU DW.dW::NY Nu Nb DW.ak::NW B0 MS M9 DW.aa::Rr B2 p2::L))) w) ?_ ?_
  ·refine Ob [(Cp MS,p1.toNat*188+2,[vI (MR p0 p1).aJ])] [0,2,3] 11 h (λh=>⟨((h.pick 7).ad8 2 p1 (zN Px) [vI (MR p0 p1).aJ]),CH⟩) λw h hd =>qq r<|Oi hd 6 [(1,43,pA (Cp MS) (p1.toNat*188)),(2,44,pA (Cp MS) (p1.toNat*188)),(3,45,pA (Cp MS) (p1.toNat*188+2)),(6,48,pA (Cp MS) (p1.toNat*188)),(7,49,.iface 42 (pA B2 0))]<|kx hd 0 5 4 rfl rfl<|λ_ r=>Pw (fuel:=4) [0,9] (by kernel_rfl) rfl (Nj ⟨_,rfl,?_⟩ (Nj ⟨_,rfl,?_⟩ (OH)))
   ·refine qq r<|N5 (Nv (H:=TI) (h:=h) :) λw h=>kn<|λ_ r=>eE ⟨((h.pick 7).ad8 2 p1 (zN Px) [vI (MR p0 p1).aJ]),CH⟩ λhd =>qq r<|eo_ hd 3 5 rfl (.func (.func 93) #[] #[]) (λw=>afo rfl aba)<|λ_ r=>Pw (fuel:=2) [8,9] (by kernel_rfl) rfl (Nj ⟨_,rfl,?_⟩ (Nj ⟨_,rfl,?_⟩ (OH)))
    ·refine qh h.m8.m4.m4.m4.m8.m8.m8.m8.m8 λh=>qq r<|GR (P6 (FG:=Px) (H:=acM) (h:=h) :) λVn WB Vk Vl w h=>kn<|λ_ r=>xE<|N3 9 rfl<|qq r<|kN h (acF) 47 λVo w h=>kn<|λ_ r=>xE<|N3 10 rfl<|qq r<|kA h (N8 Vo wZ) λw h=>kn<|λ_ r=>xE<|O4<|?_;exact⟨Vn,WB,Vk,Vl,Vo,r.fj (h.se 11 [10,0,1,6,7,8,2,3,4,5,9])⟩
    refine qq r<|kN h (acF) 47 λVo w h=>kn<|λ_ r=>xE<|N3 8 rfl<|qh h.m9.m5.m5.m5.m9.m9.m9.m9.m9 λh=>qq r<|GR (P6 (FG:=Px) (H:=acM) (h:=h) :) λVn WB Vk Vl w h=>kn<|λ_ r=>xE<|N3 10 rfl<|qh h.m9 λh=>qq r<|kA h (N8 Vo wZ) λw h=>kn<|λ_ r=>xE<|O4<|?_;exact⟨Vn,WB,Vk,Vl,Vo,r.fj (h.se 11 [10,0,1,6,7,8,2,3,4,5,9])⟩
   refine qq r<|kN h (acF) 47 λVo w h=>kn<|λ_ r=>xE<|N3 0 rfl<|qq r<|N5 (Nv (H:=TI) (h:=h) :) λw h=>kn<|λ_ r=>eE ⟨((h.pick 8).ad8 2 p1 (zN Px) [vI (MR p0 p1).aJ]),CH⟩ λhd =>qq r<|eo_ hd 2 5 rfl (.func (.func 93) #[] #[]) (λw=>afo rfl aba)<|λ_ r=>N3 8 rfl<|qh h.m9.m5.m5.m5.m9.m9.m9.m9.m9 λh=>qq r<|GR (P6 (FG:=Px) (H:=acM) (h:=h) :) λVn WB Vk Vl w h=>kn<|λ_ r=>xE<|N3 10 rfl<|qh h.m9 λh=>qq r<|kA h (N8 Vo wZ) λw h=>kn<|λ_ r=>xE<|O4<|?_;exact⟨Vn,WB,Vk,Vl,Vo,r.fj (h.se 11 [10,0,1,6,7,8,2,3,4,5,9])⟩
  clear h r;rintro a w ⟨Vn,WB,Vk,Vl,Vo,j,r,h⟩;refine qq r<|tn<|wq<|ks<|ko [U]<|kL (h.pick 1) 2<|ko [vB (wZ.aQ != 0)]<|kn<|Qf H (λaeE H=>?_) λaeE H=>?_
  ·refine wk<|tn<|ks<|kM (h.pick 1)<|kA h (N8 OP wZ) λw h=>ko [U]<|kn<|wr<|λ_ r=>agZ (Nz wZ) (vI 0) rfl r (h.held 0 rfl)<|?_;obtain⟨rfl,rfl,rfl,rfl,rfl⟩:=UE H;exact⟨Vn,WB,Vk,Vl,rfl,h.se 11 [2,6,7,8,9,3,4,5,10]⟩
  refine wl<|ko Zy<|qh h.m1 λh=>kS h 1 (N8 Vo {wZ with Qm:=p1}) λw h=>kn<|ks<|kM h<|qh h.m1 λh=>kA h (N8 OP {wZ with Qm:=p1}) λw h=>ko [U]<|kn<|wr<|λ_ r=>agZ (Nz {wZ with Qm:=p1}) (vI 0) rfl r (h.held 0 rfl)<|?_;obtain⟨rfl,rfl,rfl,rfl,rfl⟩:=UE H;exact⟨Vn,WB,Vk,Vl,rfl,h.se 11 [2,6,7,8,9,3,4,5,10]⟩
 refine qI H (λacN H=>?_) λacN H=>?_
 ·refine Ze H λvp w4 DY DZ acO H=>λ_ r=>Qh (λa w=>∃UY:Option Addr,∃UZ:Nat,∃WC:Option Addr,∃WD:Nat,∃Vp:Nat,∃j,Gk 57 (lk [(1,vI p1),(6,pA OP 0),(9,pA Vp 0)] j) a/\Fit z (cQ (pts OP (.cells acF 47)::N8 Vp vp::Od B0 w4 (.iface 33 (pA Nc 0)) N2 N6 NR NU Nu Nb MS M9::aa8 Nc DY UY UZ WC WD (Oo N2 N6 w4.code::NV NR NU w4.dW::NY Nu Nb w4.ak::NW B0 MS M9 w4.aa::Rr B2 DZ::L))) w) ?_ ?_
  ·refine Ob [(Cp MS,p1.toNat*188+2,[vI (MR p0 p1).aJ])] [0,2,3] 11 h (λh=>⟨((h.pick 7).ad8 2 p1 (zN Px) [vI (MR p0 p1).aJ]),CH⟩) λw h hd =>qq r<|Oi hd 6 [(1,43,pA (Cp MS) (p1.toNat*188)),(2,44,pA (Cp MS) (p1.toNat*188)),(3,45,pA (Cp MS) (p1.toNat*188+2)),(6,48,pA (Cp MS) (p1.toNat*188)),(7,49,.iface 42 (pA B2 0))]<|kx hd 0 5 4 rfl rfl<|λ_ r=>Pw (fuel:=4) [0,9] (by kernel_rfl) rfl (Nj ⟨_,rfl,?_⟩ (Nj ⟨_,rfl,?_⟩ (OH)))
   ·refine qq r<|N5 (Nv (H:=TI) (h:=h) :) λw h=>kn<|λ_ r=>eE ⟨((h.pick 7).ad8 2 p1 (zN Px) [vI (MR p0 p1).aJ]),CH⟩ λhd =>qq r<|eo_ hd 3 5 rfl (.func (.func 94) #[] #[]) (λw=>afo rfl acN)<|λ_ r=>Pw (fuel:=2) [8,9] (by kernel_rfl) rfl (Nj ⟨_,rfl,?_⟩ (Nj ⟨_,rfl,?_⟩ (OH)))
    ·refine qh h.m8.m4.m4.m4.m8.m8.m8.m8.m8 λh=>qq r<|GR (P2 (FG:=Px) (H:=acO) (h:=h) :) λUY UZ WC WD w h=>kn<|λ_ r=>xE<|N3 9 rfl<|qq r<|kN h (acF) 47 λVp w h=>kn<|λ_ r=>xE<|N3 10 rfl<|qq r<|kA h (N8 Vp vp) λw h=>kn<|λ_ r=>xE<|O4<|?_;exact⟨UY,UZ,WC,WD,Vp,r.fj (h.se 11 [10,0,1,6,7,8,2,3,4,5,9])⟩
    refine qq r<|kN h (acF) 47 λVp w h=>kn<|λ_ r=>xE<|N3 8 rfl<|qh h.m9.m5.m5.m5.m9.m9.m9.m9.m9 λh=>qq r<|GR (P2 (FG:=Px) (H:=acO) (h:=h) :) λUY UZ WC WD w h=>kn<|λ_ r=>xE<|N3 10 rfl<|qh h.m9 λh=>qq r<|kA h (N8 Vp vp) λw h=>kn<|λ_ r=>xE<|O4<|?_;exact⟨UY,UZ,WC,WD,Vp,r.fj (h.se 11 [10,0,1,6,7,8,2,3,4,5,9])⟩
   refine qq r<|kN h (acF) 47 λVp w h=>kn<|λ_ r=>xE<|N3 0 rfl<|qq r<|N5 (Nv (H:=TI) (h:=h) :) λw h=>kn<|λ_ r=>eE ⟨((h.pick 8).ad8 2 p1 (zN Px) [vI (MR p0 p1).aJ]),CH⟩ λhd =>qq r<|eo_ hd 2 5 rfl (.func (.func 94) #[] #[]) (λw=>afo rfl acN)<|λ_ r=>N3 8 rfl<|qh h.m9.m5.m5.m5.m9.m9.m9.m9.m9 λh=>qq r<|GR (P2 (FG:=Px) (H:=acO) (h:=h) :) λUY UZ WC WD w h=>kn<|λ_ r=>xE<|N3 10 rfl<|qh h.m9 λh=>qq r<|kA h (N8 Vp vp) λw h=>kn<|λ_ r=>xE<|O4<|?_;exact⟨UY,UZ,WC,WD,Vp,r.fj (h.se 11 [10,0,1,6,7,8,2,3,4,5,9])⟩
  clear h r;rintro a w ⟨UY,UZ,WC,WD,Vp,j,r,h⟩;refine qq r<|tn<|wq<|ks<|ko [U]<|kL (h.pick 1) 2<|ko [vB (vp.aQ != 0)]<|kn<|Qf H (λaeF H=>?_) λaeF H=>?_
  ·refine wk<|tn<|ks<|kM (h.pick 1)<|kA h (N8 OP vp) λw h=>ko [U]<|kn<|wr<|λ_ r=>agZ (Nz vp) (vI 0) rfl r (h.held 0 rfl)<|?_;obtain⟨rfl,rfl,rfl,rfl,rfl⟩:=UE H;exact⟨UY,UZ,WC,WD,rfl,h.se 11 [2,6,7,8,9,3,4,5,10]⟩
  refine wl<|ko Zy<|qh h.m1 λh=>kS h 1 (N8 Vp {vp with Qm:=p1}) λw h=>kn<|ks<|kM h<|qh h.m1 λh=>kA h (N8 OP {vp with Qm:=p1}) λw h=>ko [U]<|kn<|wr<|λ_ r=>agZ (Nz {vp with Qm:=p1}) (vI 0) rfl r (h.held 0 rfl)<|?_;obtain⟨rfl,rfl,rfl,rfl,rfl⟩:=UE H;exact⟨UY,UZ,WC,WD,rfl,h.se 11 [2,6,7,8,9,3,4,5,10]⟩
 refine qI H (λacP H=>?_) λacP H=>?_
 ·refine QW H λBw D0 D1 acQ H=>λ_ r=>Qh (λa w=>∃WE:Option Addr,∃WG:Nat,∃WH:Option Addr,∃WI:Nat,∃Vq:Nat,∃j,Gk 57 (lk [(1,vI p1),(6,pA OP 0),(9,pA Vq 0)] j) a/\Fit z (cQ (pts OP (.cells acF 47)::N8 Vq Bw::Od B0 D0 (.iface 33 (pA Nc 0)) N2 N6 NR NU Nu Nb MS M9::aa8 Nc D1 WE WG WH WI (Oo N2 N6 D0.code::NV NR NU D0.dW::NY Nu Nb D0.ak::NW B0 MS M9 D0.aa::Rr B2 p2::L))) w) ?_ ?_
  ·refine Ob [(Cp MS,p1.toNat*188+2,[vI (MR p0 p1).aJ])] [0,2,3] 11 h (λh=>⟨((h.pick 7).ad8 2 p1 (zN Px) [vI (MR p0 p1).aJ]),CH⟩) λw h hd =>qq r<|Oi hd 6 [(1,43,pA (Cp MS) (p1.toNat*188)),(2,44,pA (Cp MS) (p1.toNat*188)),(3,45,pA (Cp MS) (p1.toNat*188+2)),(6,48,pA (Cp MS) (p1.toNat*188)),(7,49,.iface 42 (pA B2 0))]<|kx hd 0 5 4 rfl rfl<|λ_ r=>Pw (fuel:=4) [0,9] (by kernel_rfl) rfl (Nj ⟨_,rfl,?_⟩ (Nj ⟨_,rfl,?_⟩ (OH)))
   ·refine qq r<|N5 (Nv (H:=TI) (h:=h) :) λw h=>kn<|λ_ r=>eE ⟨((h.pick 7).ad8 2 p1 (zN Px) [vI (MR p0 p1).aJ]),CH⟩ λhd =>qq r<|eo_ hd 3 5 rfl (.func (.func 95) #[] #[]) (λw=>afo rfl acP)<|λ_ r=>Pw (fuel:=2) [8,9] (by kernel_rfl) rfl (Nj ⟨_,rfl,?_⟩ (Nj ⟨_,rfl,?_⟩ (OH)))
    ·refine qh h.m8.m4.m4.m4.m8.m8.m8.m8.m8 λh=>qq r<|GR (Ph (FG:=Px) (H:=acQ) (h:=h) :) λWE WG WH WI w h=>kn<|λ_ r=>xE<|N3 9 rfl<|qq r<|kN h (acF) 47 λVq w h=>kn<|λ_ r=>xE<|N3 10 rfl<|qq r<|kA h (N8 Vq Bw) λw h=>kn<|λ_ r=>xE<|O4<|?_;exact⟨WE,WG,WH,WI,Vq,r.fj (h.se 11 [10,0,1,6,7,8,2,3,4,5,9])⟩
    refine qq r<|kN h (acF) 47 λVq w h=>kn<|λ_ r=>xE<|N3 8 rfl<|qh h.m9.m5.m5.m5.m9.m9.m9.m9.m9 λh=>qq r<|GR (Ph (FG:=Px) (H:=acQ) (h:=h) :) λWE WG WH WI w h=>kn<|λ_ r=>xE<|N3 10 rfl<|qh h.m9 λh=>qq r<|kA h (N8 Vq Bw) λw h=>kn<|λ_ r=>xE<|O4<|?_;exact⟨WE,WG,WH,WI,Vq,r.fj (h.se 11 [10,0,1,6,7,8,2,3,4,5,9])⟩
   refine qq r<|kN h (acF) 47 λVq w h=>kn<|λ_ r=>xE<|N3 0 rfl<|qq r<|N5 (Nv (H:=TI) (h:=h) :) λw h=>kn<|λ_ r=>eE ⟨((h.pick 8).ad8 2 p1 (zN Px) [vI (MR p0 p1).aJ]),CH⟩ λhd =>qq r<|eo_ hd 2 5 rfl (.func (.func 95) #[] #[]) (λw=>afo rfl acP)<|λ_ r=>N3 8 rfl<|qh h.m9.m5.m5.m5.m9.m9.m9.m9.m9 λh=>qq r<|GR (Ph (FG:=Px) (H:=acQ) (h:=h) :) λWE WG WH WI w h=>kn<|λ_ r=>xE<|N3 10 rfl<|qh h.m9 λh=>qq r<|kA h (N8 Vq Bw) λw h=>kn<|λ_ r=>xE<|O4<|?_;exact⟨WE,WG,WH,WI,Vq,r.fj (h.se 11 [10,0,1,6,7,8,2,3,4,5,9])⟩
  clear h r;rintro a w ⟨WE,WG,WH,WI,Vq,j,r,h⟩;refine qq r<|tn<|wq<|ks<|ko [U]<|kL (h.pick 1) 2<|ko [vB (Bw.aQ != 0)]<|kn<|Qf H (λaeG H=>?_) λaeG H=>?_
  ·refine wk<|tn<|ks<|kM (h.pick 1)<|kA h (N8 OP Bw) λw h=>ko [U]<|kn<|wr<|λ_ r=>agZ (Nz Bw) (vI 0) rfl r (h.held 0 rfl)<|?_;obtain⟨rfl,rfl,rfl,rfl,rfl⟩:=UE H;exact⟨WE,WG,WH,WI,rfl,h.se 11 [2,6,7,8,9,3,4,5,10]⟩
  refine wl<|ko Zy<|qh h.m1 λh=>kS h 1 (N8 Vq {Bw with Qm:=p1}) λw h=>kn<|ks<|kM h<|qh h.m1 λh=>kA h (N8 OP {Bw with Qm:=p1}) λw h=>ko [U]<|kn<|wr<|λ_ r=>agZ (Nz {Bw with Qm:=p1}) (vI 0) rfl r (h.held 0 rfl)<|?_;obtain⟨rfl,rfl,rfl,rfl,rfl⟩:=UE H;exact⟨WE,WG,WH,WI,rfl,h.se 11 [2,6,7,8,9,3,4,5,10]⟩
 refine qI H (λacR H=>?_) λacR H=>?_
 ·refine QW H λBx D2 D3 acS H=>λ_ r=>Qh (λa w=>∃WJ:Option Addr,∃WK:Nat,∃WL:Option Addr,∃WM:Nat,∃Vr:Nat,∃j,Gk 57 (lk [(1,vI p1),(6,pA OP 0),(9,pA Vr 0)] j) a/\Fit z (cQ (pts OP (.cells acF 47)::N8 Vr Bx::Od B0 D2 (.iface 33 (pA Nc 0)) N2 N6 NR NU Nu Nb MS M9::aa8 Nc D3 WJ WK WL WM (Oo N2 N6 D2.code::NV NR NU D2.dW::NY Nu Nb D2.ak::NW B0 MS M9 D2.aa::Rr B2 p2::L))) w) ?_ ?_
  ·refine Ob [(Cp MS,p1.toNat*188+2,[vI (MR p0 p1).aJ])] [0,2,3] 11 h (λh=>⟨((h.pick 7).ad8 2 p1 (zN Px) [vI (MR p0 p1).aJ]),CH⟩) λw h hd =>qq r<|Oi hd 6 [(1,43,pA (Cp MS) (p1.toNat*188)),(2,44,pA (Cp MS) (p1.toNat*188)),(3,45,pA (Cp MS) (p1.toNat*188+2)),(6,48,pA (Cp MS) (p1.toNat*188)),(7,49,.iface 42 (pA B2 0))]<|kx hd 0 5 4 rfl rfl<|λ_ r=>Pw (fuel:=4) [0,9] (by kernel_rfl) rfl (Nj ⟨_,rfl,?_⟩ (Nj ⟨_,rfl,?_⟩ (OH)))
   ·refine qq r<|N5 (Nv (H:=TI) (h:=h) :) λw h=>kn<|λ_ r=>eE ⟨((h.pick 7).ad8 2 p1 (zN Px) [vI (MR p0 p1).aJ]),CH⟩ λhd =>qq r<|eo_ hd 3 5 rfl (.func (.func 96) #[] #[]) (λw=>afo rfl acR)<|λ_ r=>Pw (fuel:=2) [8,9] (by kernel_rfl) rfl (Nj ⟨_,rfl,?_⟩ (Nj ⟨_,rfl,?_⟩ (OH)))
    ·refine qh h.m8.m4.m4.m4.m8.m8.m8.m8.m8 λh=>qq r<|GR (P3 (FG:=Px) (H:=acS) (h:=h) :) λWJ WK WL WM w h=>kn<|λ_ r=>xE<|N3 9 rfl<|qq r<|kN h (acF) 47 λVr w h=>kn<|λ_ r=>xE<|N3 10 rfl<|qq r<|kA h (N8 Vr Bx) λw h=>kn<|λ_ r=>xE<|O4<|?_;exact⟨WJ,WK,WL,WM,Vr,r.fj (h.se 11 [10,0,1,6,7,8,2,3,4,5,9])⟩
    refine qq r<|kN h (acF) 47 λVr w h=>kn<|λ_ r=>xE<|N3 8 rfl<|qh h.m9.m5.m5.m5.m9.m9.m9.m9.m9 λh=>qq r<|GR (P3 (FG:=Px) (H:=acS) (h:=h) :) λWJ WK WL WM w h=>kn<|λ_ r=>xE<|N3 10 rfl<|qh h.m9 λh=>qq r<|kA h (N8 Vr Bx) λw h=>kn<|λ_ r=>xE<|O4<|?_;exact⟨WJ,WK,WL,WM,Vr,r.fj (h.se 11 [10,0,1,6,7,8,2,3,4,5,9])⟩
   refine qq r<|kN h (acF) 47 λVr w h=>kn<|λ_ r=>xE<|N3 0 rfl<|qq r<|N5 (Nv (H:=TI) (h:=h) :) λw h=>kn<|λ_ r=>eE ⟨((h.pick 8).ad8 2 p1 (zN Px) [vI (MR p0 p1).aJ]),CH⟩ λhd =>qq r<|eo_ hd 2 5 rfl (.func (.func 96) #[] #[]) (λw=>afo rfl acR)<|λ_ r=>N3 8 rfl<|qh h.m9.m5.m5.m5.m9.m9.m9.m9.m9 λh=>qq r<|GR (P3 (FG:=Px) (H:=acS) (h:=h) :) λWJ WK WL WM w h=>kn<|λ_ r=>xE<|N3 10 rfl<|qh h.m9 λh=>qq r<|kA h (N8 Vr Bx) λw h=>kn<|λ_ r=>xE<|O4<|?_;exact⟨WJ,WK,WL,WM,Vr,r.fj (h.se 11 [10,0,1,6,7,8,2,3,4,5,9])⟩
  clear h r;rintro a w ⟨WJ,WK,WL,WM,Vr,j,r,h⟩;refine qq r<|tn<|wq<|ks<|ko [U]<|kL (h.pick 1) 2<|ko [vB (Bx.aQ != 0)]<|kn<|Qf H (λaeH H=>?_) λaeH H=>?_
  ·refine wk<|tn<|ks<|kM (h.pick 1)<|kA h (N8 OP Bx) λw h=>ko [U]<|kn<|wr<|λ_ r=>agZ (Nz Bx) (vI 0) rfl r (h.held 0 rfl)<|?_;obtain⟨rfl,rfl,rfl,rfl,rfl⟩:=UE H;exact⟨WJ,WK,WL,WM,rfl,h.se 11 [2,6,7,8,9,3,4,5,10]⟩
  refine wl<|ko Zy<|qh h.m1 λh=>kS h 1 (N8 Vr {Bx with Qm:=p1}) λw h=>kn<|ks<|kM h<|qh h.m1 λh=>kA h (N8 OP {Bx with Qm:=p1}) λw h=>ko [U]<|kn<|wr<|λ_ r=>agZ (Nz {Bx with Qm:=p1}) (vI 0) rfl r (h.held 0 rfl)<|?_;obtain⟨rfl,rfl,rfl,rfl,rfl⟩:=UE H;exact⟨WJ,WK,WL,WM,rfl,h.se 11 [2,6,7,8,9,3,4,5,10]⟩
 refine qI H (λabc H=>?_) λabc H=>?_
 ·refine QW H λw5 D4 D5 acT H=>λ_ r=>Qh (λa w=>∃WN:Option Addr,∃Vs:Nat,∃WO:Option Addr,∃WQ:Nat,∃Vt:Nat,∃j,Gk 57 (lk [(1,vI p1),(6,pA OP 0),(9,pA Vt 0)] j) a/\Fit z (cQ (pts OP (.cells acF 47)::N8 Vt w5::Od B0 D4 (.iface 33 (pA Nc 0)) N2 N6 NR NU Nu Nb MS M9::aa8 Nc D5 WN Vs WO WQ (Oo N2 N6 D4.code::NV NR NU D4.dW::NY Nu Nb D4.ak::NW B0 MS M9 D4.aa::Rr B2 p2::L))) w) ?_ ?_
  ·refine Ob [(Cp MS,p1.toNat*188+2,[vI (MR p0 p1).aJ])] [0,2,3] 11 h (λh=>⟨((h.pick 7).ad8 2 p1 (zN Px) [vI (MR p0 p1).aJ]),CH⟩) λw h hd =>qq r<|Oi hd 6 [(1,43,pA (Cp MS) (p1.toNat*188)),(2,44,pA (Cp MS) (p1.toNat*188)),(3,45,pA (Cp MS) (p1.toNat*188+2)),(6,48,pA (Cp MS) (p1.toNat*188)),(7,49,.iface 42 (pA B2 0))]<|kx hd 0 5 4 rfl rfl<|λ_ r=>Pw (fuel:=4) [0,9] (by kernel_rfl) rfl (Nj ⟨_,rfl,?_⟩ (Nj ⟨_,rfl,?_⟩ (OH)))
   ·refine qq r<|N5 (Nv (H:=TI) (h:=h) :) λw h=>kn<|λ_ r=>eE ⟨((h.pick 7).ad8 2 p1 (zN Px) [vI (MR p0 p1).aJ]),CH⟩ λhd =>qq r<|eo_ hd 3 5 rfl (.func (.func 97) #[] #[]) (λw=>afo rfl abc)<|λ_ r=>Pw (fuel:=2) [8,9] (by kernel_rfl) rfl (Nj ⟨_,rfl,?_⟩ (Nj ⟨_,rfl,?_⟩ (OH)))
    ·refine qh h.m8.m4.m4.m4.m8.m8.m8.m8.m8 λh=>qq r<|GR (Pq (FG:=Px) (H:=acT) (h:=h) :) λWN Vs WO WQ w h=>kn<|λ_ r=>xE<|N3 9 rfl<|qq r<|kN h (acF) 47 λVt w h=>kn<|λ_ r=>xE<|N3 10 rfl<|qq r<|kA h (N8 Vt w5) λw h=>kn<|λ_ r=>xE<|O4<|?_;exact⟨WN,Vs,WO,WQ,Vt,r.fj (h.se 11 [10,0,1,6,7,8,2,3,4,5,9])⟩
    refine qq r<|kN h (acF) 47 λVt w h=>kn<|λ_ r=>xE<|N3 8 rfl<|qh h.m9.m5.m5.m5.m9.m9.m9.m9.m9 λh=>qq r<|GR (Pq (FG:=Px) (H:=acT) (h:=h) :) λWN Vs WO WQ w h=>kn<|λ_ r=>xE<|N3 10 rfl<|qh h.m9 λh=>qq r<|kA h (N8 Vt w5) λw h=>kn<|λ_ r=>xE<|O4<|?_;exact⟨WN,Vs,WO,WQ,Vt,r.fj (h.se 11 [10,0,1,6,7,8,2,3,4,5,9])⟩
   refine qq r<|kN h (acF) 47 λVt w h=>kn<|λ_ r=>xE<|N3 0 rfl<|qq r<|N5 (Nv (H:=TI) (h:=h) :) λw h=>kn<|λ_ r=>eE ⟨((h.pick 8).ad8 2 p1 (zN Px) [vI (MR p0 p1).aJ]),CH⟩ λhd =>qq r<|eo_ hd 2 5 rfl (.func (.func 97) #[] #[]) (λw=>afo rfl abc)<|λ_ r=>N3 8 rfl<|qh h.m9.m5.m5.m5.m9.m9.m9.m9.m9 λh=>qq r<|GR (Pq (FG:=Px) (H:=acT) (h:=h) :) λWN Vs WO WQ w h=>kn<|λ_ r=>xE<|N3 10 rfl<|qh h.m9 λh=>qq r<|kA h (N8 Vt w5) λw h=>kn<|λ_ r=>xE<|O4<|?_;exact⟨WN,Vs,WO,WQ,Vt,r.fj (h.se 11 [10,0,1,6,7,8,2,3,4,5,9])⟩
  clear h r;rintro a w ⟨WN,Vs,WO,WQ,Vt,j,r,h⟩;refine qq r<|tn<|wq<|ks<|ko [U]<|kL (h.pick 1) 2<|ko [vB (w5.aQ != 0)]<|kn<|Qf H (λaeI H=>?_) λaeI H=>?_
  ·refine wk<|tn<|ks<|kM (h.pick 1)<|kA h (N8 OP w5) λw h=>ko [U]<|kn<|wr<|λ_ r=>agZ (Nz w5) (vI 0) rfl r (h.held 0 rfl)<|?_;obtain⟨rfl,rfl,rfl,rfl,rfl⟩:=UE H;exact⟨WN,Vs,WO,WQ,rfl,h.se 11 [2,6,7,8,9,3,4,5,10]⟩
  refine wl<|ko Zy<|qh h.m1 λh=>kS h 1 (N8 Vt {w5 with Qm:=p1}) λw h=>kn<|ks<|kM h<|qh h.m1 λh=>kA h (N8 OP {w5 with Qm:=p1}) λw h=>ko [U]<|kn<|wr<|λ_ r=>agZ (Nz {w5 with Qm:=p1}) (vI 0) rfl r (h.held 0 rfl)<|?_;obtain⟨rfl,rfl,rfl,rfl,rfl⟩:=UE H;exact⟨WN,Vs,WO,WQ,rfl,h.se 11 [2,6,7,8,9,3,4,5,10]⟩
 refine qI H (λaeJ H=>?_) λaeJ H=>?_
 ·cases H
 refine qI H (λaeK H=>?_) λaeK H=>?_
 ·cases H
 cases H
def j4(p1:Int)(p2:aA):Option (ah×Int):=
 some ((⟨0,0,0,0,0,0⟩:ah),1)
theorem Re{p1 r1:Int}{p2:aA}{B2:Nat}{r0:ah}(H:j4 p1 p2=some (r0,r1))(h:ft_ z (Rr B2 p2::L) w) :
 c0_ 21 #[pN,vI p1,.iface 42 (pA B2 0)] w z (.tuple #[NL r0,vI r1]) (Rr B2 p2::L):=by
 unfold j4 at H;refine ke Tryz.func21 57 rfl λj=>ks<|kN h (acF) 47 λb1 w h=>ko [U]<|kn<|wq<|ks<|ko mT<|Nh (rfl:true=true) [13,14]<|ko [U]<|kn<|λ_ r=>Oh r (b:=true) rfl<|qq r<|ks<|ko [U]<|kA h (pts b1 (.cells acF 47)) λw h=>ko [U]<|kn<|wr<|tr<|λ_ r=>agZ z6_ (vI 1) rfl r (h.held 0 rfl)<|?_;cases H;exact⟨rfl,h.se 2 [1]⟩
end
noncomputable section
variable {z w:World}{L:List M5}
def jh(p0:ae)(p1:Bool):Option (ae):=
 some ({p0 with watched:=p1})
theorem Rq{p0 q0:ae}{p1:Bool}{B0 NJ NO:Nat}{NK NG:Option Addr}(H:jh p0 p1=some q0)(h:ft_ z (aa8 B0 p0 NK NJ NG NO L) w) :
 c4_ 27 #[pA B0 0,vB p1] w z (.tuple #[]) λx1 x2 x3 x4=>aa8 B0 q0 x1 x2 x3 x4 L:=by
 unfold jh at H;refine ke Tryz.func27 10 rfl λj=>ks<|ko Zy<|kn<|λ_ r=>Oh r (b:=true) rfl<|qq r<|wl<|ko ue<|kS h 5 (pts B0 (.cells #[vI p0.n7,vI p0.dL,.slice NK p0.cell.length NJ,.slice NG p0.log.length NO,vI p0.lK,vB p1] 92)) λw h=>kl<|?_;cases H;exact xv4 NK NJ NG NO h
def ik(p0:af)(cK:ae)(p1:Int):Option (Bool):=
 (if p1>=0 then(if p1<((p0.aa.length:Nat):Int)then if aZ p1 p0.aa.length then some ((ag p0.aa p1.toNat).aJ==13)else none else some false)else some false)
theorem S5{p0:af}{cK:ae}{p1:Int}{B0 Nc NJ NO N6 NU Nb M9:Nat}{NK NG N2 NR Nu MS:Option Addr}{r0:Bool}(H:ik p0 cK p1=some r0)(h:ft_ z (aed B0 p0 (.iface 33 (pA Nc 0)) N2 N6 NR NU Nu Nb MS M9 (aa8 Nc cK NK NJ NG NO L)) w) :
 c0_ 28 #[pA B0 0,vI p1] w z (vB r0) (aed B0 p0 (.iface 33 (pA Nc 0)) N2 N6 NR NU Nu Nb MS M9 (aa8 Nc cK NK NJ NG NO L)):=by
 unfold ik at H;refine ke Tryz.func28 31 rfl λj=>ks<|ko [U]<|kn<|ks<|ko mT<|Nl (rfl:true=true) [8,9] [vI p1,vB (decide (p1>=0))]<|ko [vB (decide (p1>=0)),vB (decide (p1>=0))]<|qI H (λSC H=>?_) λSC H=>?_
 ·refine Nl (dT SC) [12,13,14,15] [vI p1,pA B0 0,pA B0 0,pA B0 9]<|Q7 (dT SC) h 9<|Nl (dT SC) [17,18] [vI ((p0.aa.length:Nat):Int),vB (decide (p1<((p0.aa.length:Nat):Int)))]<|PT (dT SC) (vB (decide (p1<((p0.aa.length:Nat):Int))))<|ko [vB (decide (p1<((p0.aa.length:Nat):Int)))]<|qI H (λRE H=>?_) λRE H=>?_
  ·refine Nl (dT RE) [21,22,23] [pA B0 0,pA B0 0,pA B0 9]<|Q7 (dT RE) h 9<|qg H λQb H=>Nl (dT RE) [25] [vI p1]<|λ_ r=>Y0 (PB r (dT RE)) r (pA (Cp MS) (p1.toNat*188)) (ag0 131 rfl (h.pick 4) Qb)<|?_;refine Nl (dT RE) [27] [pA (Cp MS) (p1.toNat*188+2)]<|λ_ r=>ld (PB r (dT RE)) r (vI (MR p0 p1).aJ) ((h.pick 4).Ng (sz:=188) (i:=p1.toNat) (MQ B0) (f:=2) (zN Qb) (by kernel_rfl))<|?_;refine Nl (dT RE) [29] [vB ((MR p0 p1).aJ==13)]<|PT (dT RE) (vB ((MR p0 p1).aJ==13))<|ko [vB ((MR p0 p1).aJ==13)]<|kn<|wr<|?_;cases H;exact Ox h
  refine Nh (dF RE) [21,22,23,24,25,26,27,28,29]<|PM (dF RE) (vB false)<|ko [U]<|kn<|wr<|?_;cases H;exact Ox h
 refine Nh (dF SC) [12,13,14,15,16,17,18]<|PM (dF SC) (vB false)<|ko [U]<|Nh (rfl:false=false) [21,22,23,24,25,26,27,28,29]<|ko Zy<|kn<|wr<|?_;cases H;exact Ox h
def iE(p0:ae):Option ((List az)):=
 if 0<=((p0.log.length:Nat):Int)/\((p0.log.length:Nat):Int)*48<=140737488355328 then if p0.log.length=(List.replicate p0.log.length (⟨0,0,0,0,0,false⟩:az)).length then some p0.log else none else none
abbrev afV:az:=⟨0,0,0,0,0,false⟩
theorem RT{p0:ae}{B0 NJ NO:Nat}{NK NG:Option Addr}{r0:List az}(H:iE p0=some r0)(h:ft_ z (aa8 B0 p0 NK NJ NG NO L) w) :
 Calls Tryz.prog 29 #[pA B0 0] w λe w=>∃y1,e=.returned (.slice y1 r0.length r0.length)/\Fit z (cQ (aa8 B0 p0 NK NJ NG NO (Nd y1 r0.length r0::L))) w:=by
 unfold iE at H;refine ke Tryz.func29 19 rfl λj=>ks<|ko [U]<|kn<|wq<|ks<|ko Zy<|kn<|λ_ r=>O3 r (b:=false) rfl<|qq r<|wk<|tn<|ks<|ko mT<|kL h 3<|qg H λc5 H=>ko [vI ((p0.log.length:Nat):Int)]<|λ_ r=>PS (i:=((p0.log.length:Nat):Int)) (bytes:=48) (zc:=#[vI 0,vI 0,vI 0,vI 0,vI 0,vB false]) afV (wn rfl) rfl rfl r rfl (by kernel_rfl) (by kernel_rfl) c5 Qy (E:=159) (by kernel_rfl) (by kernel_rfl) rfl rfl h λU6 w _ h r=>qq r<|ko [U]<|kn<|ks<|ko ue<|kL (h.pick 1) 3<|qg H λc7 H=>qh h.m3.m1 λh=>λ_ r=>Yq (wn rfl) rfl rfl r rfl (by kernel_rfl) (by kernel_rfl) Qy (E:=159) (by kernel_rfl) (by kernel_rfl) c7 h λw _ h r=>qq r<|kn<|ks<|ko Zy<|kn<|wr<|λ_ r=>afn (.slice U6 (List.replicate p0.log.length afV).length p0.log.length) rfl r<|?_;have hn7:(List.replicate p0.log.length afV).length=p0.log.length:=h.N4;replace h:=Fit.Wa hn7 (λq_=>rowOf 159 6 Ot (.slice U6 q_ p0.log.length) p0.log) h;cases H;exact⟨U6,(by first | rfl | simp only[hn7]),h.se 4 [2,3,1,0]⟩
def fq(K:Nat)(p0:aN):Nat->Int->Option (Bool)
 | 0,_=>none
 | k1+1,g2=>(if g2<((p0.Nm.length:Nat):Int)then if aZ g2 p0.Nm.length then bH (cX (ag p0.Nm g2.toNat) p0.ez) (λr5=>(if r5=0 then some true else(fq K p0 k1 (wi (g2+1)))))else none else some false)
def kg(K:Nat)(p0:aN):Option (Bool):=
 (fq K p0 K 0)
theorem Tp{K:Nat}{p0:aN}{Aw Fe AA AE:Option Addr}{Ax Ff AB AF:Nat}{Az:Nat->Option Addr×Nat}{r0:Bool}(H:kg K p0=some r0)(h:ft_ z (L) w)(Ay:T3 L Aw Az p0.cG)(Fg:jJ L 1 oE Fe p0.mc)(AD:jJ L 1 oE AA p0.Nm)(AG:jJ L 1 oE AE p0.gQ) :
 c0_ 26 #[.agg #[.slice Aw p0.cG.length Ax,.slice Fe p0.mc.length Ff,vI p0.ez,vI p0.MU,vI p0.j8,vI p0.kU,.slice AA p0.Nm.length AB,.slice AE p0.gQ.length AF]] w z (vB r0) (L):=by
 unfold kg at H;refine ke Tryz.func26 22 rfl λj=>ks<|kN h (#[.slice Aw p0.cG.length Ax,.slice Fe p0.mc.length Ff,vI p0.ez,vI p0.MU,vI p0.j8,vI p0.kU,.slice AA p0.Nm.length AB,.slice AE p0.gQ.length AF]) 32 λb1 w h=>ko [U]<|kn<|wq<|ks<|ko [U]<|kn<|wb<|λ_ r=>NB (β:=Nat) id (λm a w=>∃g2:Int,(fq K p0 m g2)=some r0/\∃j,Gk 22 (lk [(1,pA b1 0),(3,vI g2)] j) a/\Fit z (cQ (UN b1 p0 Aw Ax Fe Ff AA AB AE AF::L)) w) K ⟨0,H,r.fj h⟩<|?_;clear h r H;rintro k1 a w ⟨g2,H,j,r,h⟩;cases k1 with
 | zero=>exact absurd H (by simp[fq])
 | succ k1 =>
  rw[fq]at H;refine qq r<|wq<|ks<|ko mT<|kL h 6<|ko [vI ((p0.Nm.length:Nat):Int),vB (decide (g2<((p0.Nm.length:Nat):Int)))]<|kn<|NN H (λc3 H=>?_) λc3 H=>?_
  ·refine wk<|tn<|wq<|wb<|wq<|qg H λc4 H=>Oj H λr5 e6 H=>λ_ r=>Ob [(b1,6,[.slice AA p0.Nm.length AB]),(Cp AA,sJ AA+g2.toNat*1,[vI (ag p0.Nm g2.toNat)]),(b1,2,[vI p0.ez])] [0,1,4,6] 10 h (λh=>⟨⟨h.cell 6 rfl,CH⟩,⟨AD.cell c4 (h.dn 1) 0 rfl,CH⟩,⟨h.cell 2 rfl,CH⟩,CH⟩) λw h hd =>qq r<|Oi hd 6 [(0,12,pA b1 6),(1,13,pA b1 6),(3,15,vI g2),(6,18,pA b1 2)]<|kx hd 0 5 2 rfl rfl<|eo_ hd 4 4 rfl (pA (Cp AA) (sJ AA+g2.toNat*1)) (λw=>afF 3 AB rfl rfl AD c4)<|kx hd 1 3 5 rfl rfl<|kx hd 2 2 7 rfl rfl<|λ_ r=>N3 8 rfl<|qq r<|N5 (Uc (H:=e6) (h:=h) :) λw h=>kn<|λ_ r=>xE<|qq r<|ev_ 0 9 rfl (vB (r5==0))<|λ_ r=>O4<|qq r<|tn<|NN H (λc7 H=>?_) λc7 H=>?_
   ·refine ks<|ko [U]<|kn<|wr<|br<|tr<|tr<|br<|tr<|?_;cases H;exact Ox (h.se 1 [])
   refine wk<|bn<|tn<|wl<|ko [U,vI (wi (g2+1)),vI (wi (g2+1))]<|kn<|?_;exact λ_ r=>⟨_,⟨(wi (g2+1)),H,r.fj h⟩,afl _⟩
  refine wx<|te<|te<|bh<|tn<|ks<|ko [U]<|kn<|wr<|?_;cases H;exact Ox (h.se 1 [])
end
open Go SL GX
section
variable {K:Nat}
abbrev ar(sz:Int)(c:List Int)(l:List az)(a:Int)(w:Bool):ae:=⟨sz,(c.length:Nat),c,l,a,w⟩
def wl_(w:Bool)(l xs:List az):List az:=if w then l++xs else l
theorem lN(w:Bool)(l xs ys:List az):wl_ w (wl_ w l xs) ys=wl_ w l (xs++ys):=by cases w<;>simp[wl_]
theorem qm(w:Bool)(l:List az):wl_ w l []=l:=by cases w<;>simp[wl_]
theorem So(w:Bool)(l xs:List az):(wl_ w l xs).length<=l.length+xs.length:=by cases w<;>simp[wl_]
theorem Ya{sz:Int}{m:Int}{c:List Int}{l:List az}{a:Int}{w:Bool}(hl:l.length<=2000000000)(k d x y:Int)(ok:Bool) :
 cy ⟨sz,m,c,l,a,w⟩ k d x y ok=some ⟨sz,m,c,wl_ w l [⟨a,k,d,x,y,ok⟩],a,w⟩:=by
 unfold cy wl_
 cases w
 ·rfl
 ·rw[au rfl,au (by show(l.length+1)*48<=_;omega)];rfl
theorem Yb{sz:Int}{c:List Int}{l:List az}{a:Int}{w:Bool}(hl:l.length<=2000000000)(hs:sz<=2000000000){n:Int}(h1:1<=n)(hn:(c.length:Int)+n<=sz) :
 N9 (ar sz c l a w) n=some (((c.length:Nat):Int),0,ar sz (c++List.replicate n.toNat 0) (wl_ w l [⟨a,4,(c.length:Nat),n,0,true⟩]) a w):=by
 unfold N9 Ps jb
 rw[OU,iO_,bz (by show -9223372036854775808<=sz-(c.length:Nat)/\sz-(c.length:Nat)<=9223372036854775807;omega),aj (by show ¬n>sz-(c.length:Nat);omega),ai,au rfl,bJ,
  au ⟨by omega,by show(c.length+n.toNat)*8<=_;omega⟩,Ya hl,ai,bz (by show -9223372036854775808<=((c.length:Nat):Int)+n/\((c.length:Nat):Int)+n<=9223372036854775807;omega)]
 simp only[ar,ad9,aeb]
 rw[show((c.length+n.toNat:Nat):Int)=((c.length:Nat):Int)+n by omega]
theorem qt{sz:Int}{c:List Int}{l:List az}{a:Int}{w:Bool}(hs:sz<=2000000000)(hs0:0<=sz)(hc:c.length<=2000000000){n:Int}(h1:1<=n)(hn:¬(c.length:Int)+n<=sz) :
 N9 (ar sz c l a w) n=some (0,22,ar sz c l a w):=by
 unfold N9 Ps
 rw[OU,iO_,bz (by show -9223372036854775808<=sz-(c.length:Nat)/\sz-(c.length:Nat)<=9223372036854775807;omega),au (by show n>sz-(c.length:Nat);omega),ai,aj (by decide)]
theorem w6{sz:Int}{c:List Int}{l:List az}{a:Int}{w:Bool}{d:Int}(h0:0<=d)(h1:d<(c.length:Nat)):cZ (ar sz c l a w) d=some false:=by
 unfold cZ jz
 rw[au h0,ai];simp[h1]
theorem sY{sz:Int}{c:List Int}{l:List az}{a:Int}{w:Bool}(hl:l.length<=2000000000){d v:Int}(h0:0<=d)(h1:d<(c.length:Nat)) :
 bt (ar sz c l a w) d v=some (0,ar sz (c.set d.toNat v) (wl_ w l [⟨a,1,d,v,0,true⟩]) a w):=by
 unfold bt
 rw[w6 h0 h1,ai,aj (by decide),au ⟨h0,h1⟩,Ya hl,ai]
 simp only[ar,acG]
theorem Bz{sz:Int}{c:List Int}{l:List az}{a:Int}{w:Bool}(hl:l.length<=2000000000){d v:Int}(h0:0<=d)(h1:d<(c.length:Nat)) :
 dm (ar sz c l a w) d v=some (wi (ag c d.toNat+v),0,ar sz (c.set d.toNat (wi (ag c d.toNat+v))) (wl_ w l [⟨a,3,d,v,wi (ag c d.toNat+v),true⟩]) a w):=by
 unfold dm
 have h2:d.toNat<c.length:=by omega
 rw[w6 h0 h1,ai,aj (by decide),au ⟨h0,h1⟩,au ⟨h0,by rw[acG];exact h1⟩,Ya hl,ai,au ⟨h0,by show d<(((c.set d.toNat _).length:Nat):Int);rw[acG];exact h1⟩]
 simp only[ar,acG]
 rw[iN h2]
def fW(sz:Int):List az->List az
 | []=>[]
 | x::xs=>if x.aQ=4/\x.Addr+x.A>sz then []else x::fW sz xs
theorem oc{sz:Int}:∀(xs ys:List az),(∀x∈xs,x.aQ≠4)->fW sz (xs++ys)=xs++fW sz ys
 | [],ys,_=>rfl
 | x::xs,ys,h=>by
  rw[afy,fW,aj (λe=>h x (by simp) e.1),oc xs ys (λy hy=>h y (ad7 _ hy))];rfl
theorem rL{sz:Int}:∀(xs ys:List az),fW sz xs=xs->fW sz (xs++ys)=xs++fW sz ys
 | [],ys,_=>rfl
 | x::xs,ys,h=>by
  rw[fW]at h
  by_cases e:x.aQ=4/\x.Addr+x.A>sz
  ·rw[au e]at h;exact absurd h (by simp)
  ·rw[aj e]at h
   rw[afy,fW,aj e,rL xs ys (List.cons.inj h).2];rfl
def qu(a:Int)(i:Nat):Nat->List az
 | 0=>[]
 | d+1=>⟨a,1,2+10*(i:Int),1,0,true⟩::qu a (i+1) d
theorem rM{a:Int}:∀(d i:Nat),∀x∈qu a i d,x.aQ≠4
 | 0,i,x,h=>by simp[qu]at h
 | d+1,i,x,h=>by
  rcases List.mem_cons.1 h with rfl | h
  ·show(1:Int)≠4;decide
  ·exact rM d (i+1) x h
theorem uB{a:Int}:∀(d i:Nat),(qu a i d).length=d
 | 0,i=>rfl
 | d+1,i=>by rw[qu,af2,uB d (i+1)]
def ox(a first:Int):Int->Nat->List az
 | _,0=>[]
 | ag,d+1=>⟨a,4,ag,4+first,0,true⟩::⟨a,1,ag+2,ag+3,0,true⟩::⟨a,1,ag+3,first,0,true⟩::ox a first (ag+(4+first)) d
theorem uC{a first:Int}:∀(d:Nat) (ag:Int),(ox a first ag d).length=3*d
 | 0,_=>rfl
 | d+1,_=>by rw[ox,af2,af2,af2,uC d];omega
structure Ac(F first most:Int):Prop where
 f1:1<=F
 f2:F<=4096
 a1:1<=first
 a2:first<=most
 m2:most<=4096
theorem vq(p:ay)(args:List Int)(n:Int)(l:bY)(hK:3000<K) :∃e:Int,gV K p args n l=some e/\fV K p args n l=some e/\(e=0∨e=110∨e=111∨e=60∨e=61)/\(e=0->Valid p/\(args.length:Int)=(ag p.aB 0).MW/\1<=n/\n<=64/\Ac l.cO l.bD l.gK):=by
 obtain⟨x,e1,e2,e3⟩:=wX (K:=K) p hK
 unfold gV fV
 rw[e1,e2,ai,ai]
 by_cases hx:x.AX=0
 ·have hv:=e3 hx
  have:=hv.n1
  have hi:aZ (0:Int) p.aB.length:=⟨by decide,by omega⟩
  rw[au hx,au hx,au hi,au hi]
  by_cases ha:((args.length:Nat):Int)=(ag p.aB 0).MW
  ·rw[au ha,au ha]
   unfold iZ eU ja
   by_cases h1:n<1
   ·rw[au h1,aj (show ¬n>=1 by omega)];exact⟨110,rfl,rfl,by simp,λh=>absurd h (by decide)⟩
   ·rw[aj h1,au (show n>=1 by omega)]
    by_cases h2:n>64
    ·rw[au h2,agE (show ¬n<=64 by omega)];exact⟨110,rfl,rfl,by simp,λh=>absurd h (by decide)⟩
    ·rw[aj h2,afC (show n<=64 by omega),ai,au rfl]
     by_cases g1:l.cO<1
     ·rw[au g1,aj (show ¬l.cO>=1 by omega)];exact⟨111,rfl,rfl,by simp,λh=>absurd h (by decide)⟩
     rw[aj g1,au (show l.cO>=1 by omega)]
     by_cases g2:l.cO>4096
     ·rw[au g2,aj (show ¬l.cO<=4096 by omega)];exact⟨111,rfl,rfl,by simp,λh=>absurd h (by decide)⟩
     rw[aj g2,au (show l.cO<=4096 by omega)]
     by_cases g3:l.bD<1
     ·rw[au g3,aj (show ¬(1:Int)<=l.bD by omega)];exact⟨111,rfl,rfl,by simp,λh=>absurd h (by decide)⟩
     rw[aj g3,au (show(1:Int)<=l.bD by omega)]
     by_cases g4:l.bD>l.gK
     ·rw[au g4,aj (show ¬l.bD<=l.gK by omega)];exact⟨111,rfl,rfl,by simp,λh=>absurd h (by decide)⟩
     rw[aj g4,au (show l.bD<=l.gK by omega)]
     by_cases g5:l.gK>4096
     ·rw[afC g5,agE (show ¬l.gK<=4096 by omega)];exact⟨111,rfl,rfl,by simp,λh=>absurd h (by decide)⟩
     ·rw[agE g5,afC (show l.gK<=4096 by omega)]
      exact⟨0,rfl,rfl,.inl rfl,λ_=>⟨hv,ha,by omega,by omega,⟨by omega,by omega,by omega,by omega,by omega⟩⟩⟩
  ·rw[aj ha,aj ha];exact⟨61,rfl,rfl,by simp,λh=>absurd h (by decide)⟩
 ·rw[aj hx,aj hx];exact⟨60,rfl,rfl,by simp,λh=>absurd h (by decide)⟩
structure oU(N F W:Nat)(first:Int)(c:List Int):Prop where
 len:c.length=4+10*F+N+N*W
 c0:ag c 0=0
 c1:ag c 1=1
 fr:∀f,f<F->∀r,r<10->ag c (2+10*f+r)=if r=0 then 1 else 0
 D6:∀r,r<2+N->ag c (2+10*F+r)=0
 dq:∀i,i<N->∀r,r<W->ag c (4+10*F+N+i*W+r)=if r=2 then((4+10*F+N+i*W+3:Nat):Int)else if r=3 then first else 0
theorem agX{x y:List Int}(hl:x.length=y.length)(he:∀i,i<x.length->ag x i=ag y i):x=y:=by
 refine agI hl λi h1 h2 => ?_
 have:=he i h1
 unfold ag at this
 rw[List.getD_eq_getElem?_getD,List.getD_eq_getElem?_getD,List.getElem?_eq_getElem h1,List.getElem?_eq_getElem h2]at this
 exact this
theorem oU.eq{N F W:Nat}(hW:0<W){first:Int}{c c':List Int}(h:oU N F W first c)(h':oU N F W first c'):c=c':=by
 refine agX (by rw[h.len,h'.len]) λx hx => ?_
 rw[h.len]at hx
 by_cases e0:x=0
 ·subst e0;rw[h.c0,h'.c0]
 by_cases e1:x=1
 ·subst e1;rw[h.c1,h'.c1]
 by_cases e2:x<2+10*F
 ·rw[show x=2+10*((x-2)/10)+(x-2)%10 by omega,h.fr _ (by omega) _ (by omega),h'.fr _ (by omega) _ (by omega)]
 by_cases e3:x<4+10*F+N
 ·rw[show x=2+10*F+(x-(2+10*F)) by omega,h.D6 _ (by omega),h'.D6 _ (by omega)]
 have hd:=Nat.div_add_mod (x-(4+10*F+N)) W
 have hm:=Nat.mod_lt (x-(4+10*F+N)) hW
 have hi:(x-(4+10*F+N))/W<N:=by rw[Nat.div_lt_iff_lt_mul hW];omega
 rw[Nat.mul_comm]at hd
 rw[show x=4+10*F+N+(x-(4+10*F+N))/W*W+(x-(4+10*F+N))%W by omega,h.dq _ hi _ hm,h'.dq _ hi _ hm]
end
section
variable {K:Nat}
theorem mu{l:List Int}{i k:Nat}{x:Int}(h:i<l.length):ag (l.set i x) k=if k=i then x else ag l k:=eX h
theorem w7{sz a:Int}{w:Bool}{F:Nat}(hF:F<=4096):∀(d k i:Nat) (c:List Int) (l:List az),i+d=F->d<k->2+10*F<=c.length->l.length+d<=1000000000->
 ∃c',eR K (F:Int) 1 k (ar sz c l a w) (i:Int)=some (⟨1,F⟩,0,ar sz c' (wl_ w l (qu a i d)) a w)/\c'.length=c.length/\(∀f,i<=f->f<F->ag c' (2+10*f)=1)/\(∀x,(∀f,i<=f->f<F->x≠2+10*f)->ag c' x=ag c x)
 | d,k,i,c,l,hd,hk,hc,hl=>by
  obtain⟨k,rfl⟩ :∃m,k=m+1:=⟨k-1,by omega⟩
  rw[eR]
  by_cases hi:i<F
  ·obtain⟨d,rfl⟩ :∃m,d=m+1:=⟨d-1,by omega⟩
   unfold cJ
   rw[iQ_,bz (x:=(1:Int)+1) (by omega),bz (x:=(i:Int)*10) (by omega),bz (by omega),ai,sY (by omega) (by omega) (by omega),bJ,au rfl,mm (by omega)]
   have e:((1:Int)+1+(i:Int)*10).toNat=2+10*i:=by omega
   rw[e]
   have h1:=So w l [(⟨a,1,1+1+(i:Int)*10,1,0,true⟩:az)]
   simp only[agF]at h1
   obtain⟨c',r1,r2,r3,r4⟩:=w7 hF d k (i+1) (c.set (2+10*i) 1) (wl_ w l [⟨a,1,1+1+(i:Int)*10,1,0,true⟩]) (by omega) (by omega) (by rw[acG];exact hc) (by omega)
   refine⟨c',?_,by rw[r2,acG],λf h1 h2 => ?_,λx hx => ?_⟩
   ·rw[r1,lN,qu,show(1:Int)+1+(i:Int)*10=2+10*(i:Int) by omega];rfl
   ·by_cases e:f=i
    ·subst e;rw[r4 _ (λg h3 h4=>by omega),mu (by omega),au rfl]
    ·exact r3 f (by omega) h2
   ·rw[r4 x (λf h3 h4=>hx f (by omega) h4),mu (by omega),aj (hx i (aea _) hi)]
  ·rw[iO_]
   obtain rfl:d=0:=by omega
   exact⟨c,by rw[qu,qm],rfl,λf h1 h2=>by omega,λ_ _=>rfl⟩
def yn(B W:Nat)(most:Int)(i:Nat):Nat->List aT
 | 0=>[]
 | d+1=>⟨((B+i*W:Nat):Int),most⟩::yn B W most (i+1) d
theorem uD{B W:Nat}{most:Int}:∀(d i:Nat),(yn B W most i d).length=d
 | 0,i=>rfl
 | d+1,i=>by rw[yn,af2,uD d (i+1)]
theorem w8{B W:Nat}{most:Int}:∀(d i j:Nat),j<d->ag (yn B W most i d) j=⟨((B+(i+j)*W:Nat):Int),most⟩
 | d+1,i,0,_=>by rw[yn];rfl
 | d+1,i,j+1,h=>by
  have:=w8 (B:=B) (W:=W) (most:=most) d (i+1) j (by omega)
  rw[show i+1+j=i+(j+1) by omega]at this
  exact this
theorem HB{sz a:Int}{w:Bool}{dG:bY}(hl:Ac dG.cO dG.bD dG.gK)(hs:sz<=2000000000){c:List Int}{l:List az}(hc:c.length<=1000000000)(KC:l.length<=1000000000) :
 ((c.length:Int)+(4+dG.bD)<=sz->iC (ar sz c l a w) dG.bD dG.gK=some (⟨((c.length:Nat):Int),dG.gK⟩,0,ar sz (((c++List.replicate (4+dG.bD).toNat 0).set (c.length+2) ((c.length:Nat)+3)).set (c.length+3) dG.bD)
  (wl_ w l [⟨a,4,(c.length:Nat),4+dG.bD,0,true⟩,⟨a,1,(c.length:Nat)+2,(c.length:Nat)+3,0,true⟩,⟨a,1,(c.length:Nat)+3,dG.bD,0,true⟩]) a w))/\
 (0<=sz->¬(c.length:Int)+(4+dG.bD)<=sz->iC (ar sz c l a w) dG.bD dG.gK=some (⟨0,0⟩,22,ar sz c l a w)):=by
 have h1:=hl.a1
 have h2:=hl.a2
 have h3:=hl.m2
 unfold iC j2
 rw[au h1,au h2,afC h3,ai,au rfl,bz (x:=(4:Int)+dG.bD) (by omega)]
 refine⟨λhf => ?_,λh0 hf => ?_⟩
 ·have k1:=So w l [(⟨a,4,(c.length:Nat),4+dG.bD,0,true⟩:az)]
  simp only[agF]at k1
  rw[Yb (by omega) hs (by omega) hf,bf,au rfl,bz (x:=((c.length:Nat):Int)+2) (by omega),bz (x:=((c.length:Nat):Int)+3) (by omega),sY (by omega) (by omega) (by rw[ad9,aeb];omega),bJ,au rfl]
  have k2:=So w (wl_ w l [(⟨a,4,(c.length:Nat),4+dG.bD,0,true⟩:az)]) [(⟨a,1,(c.length:Nat)+2,(c.length:Nat)+3,0,true⟩:az)]
  simp only[agF]at k2
  rw[sY (by omega) (by omega) (by rw[acG,ad9,aeb];omega),bJ,au rfl,lN,lN,show(((c.length:Nat):Int)+2).toNat=c.length+2 by omega,show(((c.length:Nat):Int)+3).toNat=c.length+3 by omega]
  rfl
 ·rw[qt hs h0 (by omega) (by omega) hf,bf,aj (by decide)]
theorem D7{sz a:Int}{w:Bool}{dG:bY}(hl:Ac dG.cO dG.bD dG.gK)(hs:sz<=1000000000)(hs0:0<=sz){N B W:Nat}(hN:N<=64)(hB:B<=100000)(hW:(W:Int)=4+dG.bD){p0:af}{iw:Int}{lQ:aF}{r32:bU}:∀(d k i:Nat) (c:List Int) (l:List az) (D:List aT),i+d=N->d<k->c.length=B+i*W->D.length=i->l.length+3*d<=1000000000->
 (((B+N*W:Nat):Int)<=sz->∃c',eT K p0 (N:Int) dG iw lQ r32 k (ar sz c l a w) D (i:Int)=some (.inl (ar sz c' (wl_ w l (ox a dG.bD (c.length:Nat) d)) a w,D++yn B W dG.gK i d))/\fW sz (ox a dG.bD (c.length:Nat) d)=ox a dG.bD (c.length:Nat) d/\c'.length=B+N*W/\(∀x,x<c.length->ag c' x=ag c x)/\
   (∀j,i<=j->j<N->∀r,r<W->ag c' (B+j*W+r)=if r=2 then((B+j*W+3:Nat):Int)else if r=3 then dG.bD else 0))/\
 (¬((B+N*W:Nat):Int)<=sz->∃X c',eT K p0 (N:Int) dG iw lQ r32 k (ar sz c l a w) D (i:Int)=some (.inr (22,X,ar sz c' (wl_ w l (fW sz (ox a dG.bD (c.length:Nat) d))) a w))/\(∀ys,fW sz (ox a dG.bD (c.length:Nat) d++ys)=fW sz (ox a dG.bD (c.length:Nat) d))∨((B+i*W:Nat):Int)>sz/\d=0)
 | d,k,i,c,l,D,hd,hk,hc,hD,KC=>by
  obtain⟨k,rfl⟩ :∃m,k=m+1:=⟨k-1,by omega⟩
  have h1:=hl.a1
  have h2:=hl.a2
  have h3:=hl.m2
  have LX:i*W<=N*W:=afm W (by omega)
  have Jo:N*W<=64*4100:=Nat.mul_le_mul hN (by omega)
  rw[eT]
  by_cases hi:i<N
  ·obtain⟨d,rfl⟩ :∃m,d=m+1:=⟨d-1,by omega⟩
   have LY:(i+1)*W=i*W+W:=agm i W
   have KD:(i+1)*W<=N*W:=afm W (by omega)
   have yo:(((c++List.replicate (4+dG.bD).toNat (0:Int)).set (c.length+2) ((c.length:Nat)+3)).set (c.length+3) dG.bD).length=B+(i+1)*W:=by
    rw[acG,acG,ad9,aeb];omega
   rw[iQ_]
   obtain⟨n1,n2⟩:=HB (a:=a) (w:=w) hl (by omega:sz<=2000000000) (c:=c) (l:=l) (by omega) (by omega)
   by_cases hf:(c.length:Int)+(4+dG.bD)<=sz
   ·rw[n1 hf,bf,au rfl,iQ_,mm (by omega)]
    have yH:∀ys,fW sz ((⟨a,4,(c.length:Nat),4+dG.bD,0,true⟩:az)::(⟨a,1,(c.length:Nat)+2,(c.length:Nat)+3,0,true⟩:az)::(⟨a,1,(c.length:Nat)+3,dG.bD,0,true⟩:az)::ys)=(⟨a,4,(c.length:Nat),4+dG.bD,0,true⟩:az)::(⟨a,1,(c.length:Nat)+2,(c.length:Nat)+3,0,true⟩:az)::(⟨a,1,(c.length:Nat)+3,dG.bD,0,true⟩:az)::fW sz ys:=λys=>by
     rw[fW,aj (λh=>absurd h.2 (by show ¬((c.length:Nat):Int)+(4+dG.bD)>sz;omega)),fW,aj (λh=>absurd h.1 (by show ¬(1:Int)=4;decide)),fW,aj (λh=>absurd h.1 (by show ¬(1:Int)=4;decide))]
    have k1:=So w l [(⟨a,4,(c.length:Nat),4+dG.bD,0,true⟩:az),(⟨a,1,(c.length:Nat)+2,(c.length:Nat)+3,0,true⟩:az),(⟨a,1,(c.length:Nat)+3,dG.bD,0,true⟩:az)]
    simp only[af2,afY]at k1
    obtain⟨DD,DE⟩:=D7 hl hs hs0 hN hB hW (p0:=p0) (iw:=iw) (lQ:=lQ) (r32:=r32) (a:=a) (w:=w) d k (i+1) _ (wl_ w l [(⟨a,4,(c.length:Nat),4+dG.bD,0,true⟩:az),(⟨a,1,(c.length:Nat)+2,(c.length:Nat)+3,0,true⟩:az),(⟨a,1,(c.length:Nat)+3,dG.bD,0,true⟩:az)]) (D++[⟨((c.length:Nat):Int),dG.gK⟩]) (by omega) (by omega) yo (by simp[hD]) (by omega)
    have el:((B+(i+1)*W:Nat):Int)=((c.length:Nat):Int)+(4+dG.bD):=by omega
    rw[yo,el]at DD DE
    refine⟨λhfit => ?_,λhno => ?_⟩
    ·obtain⟨c',r1,r0,r2,r3,r4⟩:=DD hfit
     refine⟨c',?_,?_,r2,λx hx => ?_,λj h5 h6 r h7 => ?_⟩
     ·rw[r1,lN,ox,yn,aeA,hc];rfl
     ·rw[ox,yH,r0]
     ·rw[r3 x (by omega),mu (by rw[acG,ad9,aeb];omega),iO_,mu (by rw[ad9,aeb];omega),iO_,gU hx]
     ·by_cases e:j=i
      ·subst e
       rw[r3 _ (by omega),<-hc,mu (by rw[acG,ad9,aeb];omega),mu (by rw[ad9,aeb];omega),jR (by omega),show c.length+r-c.length=r by omega,Sd (by omega)]
       by_cases e2:r=2
       ·subst e2;rw[iO_,au rfl,au rfl];omega
       ·by_cases e3:r=3
        ·subst e3;rw[au rfl,iO_,au rfl]
        ·rw[iO_,iO_,aj e2,aj e3]
      ·exact r4 j (by omega) h6 r h7
    ·obtain⟨X,c',⟨r1,r2⟩ | r1⟩:=DE hno
     ·exact⟨X,c',.inl ⟨by rw[r1,lN,ox,yH];rfl,λys=>by rw[ox,afy,afy,afy,yH,yH,r2 ys]⟩⟩
     ·exfalso;omega
   ·have e2:=n2 hs0 hf
    refine⟨λhfit=>by exfalso;omega,λhno => ?_⟩
    rw[e2,bf,aj (by decide)]
    have e3:wl_ w l (fW sz (ox a dG.bD (c.length:Nat) (d+1)))=l:=by
     rw[ox,fW,au ⟨rfl,by show((c.length:Nat):Int)+(4+dG.bD)>sz;omega⟩,qm]
    rw[e3]
    exact⟨_,c,.inl ⟨rfl,λys=>by rw[ox,afy,fW,fW,au ⟨rfl,by show((c.length:Nat):Int)+(4+dG.bD)>sz;omega⟩,au ⟨rfl,by show((c.length:Nat):Int)+(4+dG.bD)>sz;omega⟩]⟩⟩
  ·obtain rfl:d=0:=by omega
   obtain rfl:i=N:=by omega
   rw[iO_]
   refine⟨λhfit=>⟨c,by rw[ox,qm,yn,af0],rfl,hc,λ_ _=>rfl,λj h5 h6=>by omega⟩,λhno=>⟨p0,c,.inr ⟨by omega,rfl⟩⟩⟩
def iP(a:Int)(N F:Nat)(first:Int):List az:=
 [⟨a,4,0,1,0,true⟩,⟨a,4,1,1+10*(F:Int),0,true⟩]++qu a 0 F++(⟨a,4,2+10*(F:Int),2+(N:Int),0,true⟩::ox a first (4+10*F+N:Nat) N++[⟨a,3,1,1,1,true⟩])
theorem sZ{sz a:Int}{w:Bool}{F:Nat}(h1:1<=F)(h2:F<=4096)(hs:sz<=1000000000)(hs0:0<=sz)(hK:5000<K){l:List az}(hl:l.length<=100) :
 ((2+10*F:Int)<=sz->∃c,ia K (ar sz [0] l a w) (F:Int)=some (⟨1,F⟩,0,ar sz c (wl_ w l (⟨a,4,1,1+10*(F:Int),0,true⟩::qu a 0 F)) a w)/\c.length=2+10*F/\(∀f,f<F->ag c (2+10*f)=1)/\(∀x,x<2+10*F->(∀f,f<F->x≠2+10*f)->ag c x=0))/\
 (¬(2+10*F:Int)<=sz->ia K (ar sz [0] l a w) (F:Int)=some (⟨0,0⟩,22,ar sz [0] l a w)):=by
 unfold ia jc
 rw[aj (show ¬(F:Int)<1 by omega),aj (show ¬(F:Int)>4096 by omega),bz (x:=(F:Int)*10) (by omega),bz (x:=1+(F:Int)*10) (by omega),ai,aj (show ¬1+(F:Int)*10=0 by omega),ai]
 refine⟨λhf => ?_,λhf => ?_⟩
 ·rw[Yb (by omega) (by omega) (by omega) (by show((1:Nat):Int)+(1+(F:Int)*10)<=sz;omega),bf,au rfl]
  have k1:=So w l [(⟨a,4,1,1+(F:Int)*10,0,true⟩:az)]
  simp only[agF]at k1
  obtain⟨c,r1,r2,r3,r4⟩:=w7 (K:=K) (sz:=sz) (a:=a) (w:=w) h2 F K 0 ([0]++List.replicate (1+(F:Int)*10).toNat 0) (wl_ w l [⟨a,4,1,1+(F:Int)*10,0,true⟩]) (by omega) (by omega) (by rw[ad9,aeb];simp;omega) (by omega)
  rw[agQ]at r1
  refine⟨c,?_,by rw[r2,ad9,aeb];simp;omega,λf hf=>r3 f (agP _) hf,λx hx hn => ?_⟩
  ·show eR K (F:Int) ((1:Nat):Int) K (ar sz ([0]++List.replicate (1+(F:Int)*10).toNat 0) (wl_ w l [⟨a,4,((1:Nat):Int),1+(F:Int)*10,0,true⟩]) a w) 0=_
   rw[show((1:Nat):Int)=1 from rfl,r1,lN,show 1+(F:Int)*10=1+10*(F:Int) by omega];rfl
  ·rw[r4 x (λf _ h=>hn f h)]
   by_cases e:x=0
   ·subst e;rfl
   ·rw[jR (by simp;omega),Sd (by simp;omega)]
 ·rw[qt (by omega) hs0 (by simp) (by omega) (by show ¬((1:Nat):Int)+(1+(F:Int)*10)<=sz;omega),bf,aj (by decide)]
theorem abd{sz a:Int}{w:Bool}{N:Nat}(h1:1<=N)(h2:N<=64)(hs:sz<=1000000000)(hs0:0<=sz){c:List Int}(hc:c.length<=100000){l:List az}(hl:l.length<=100000) :
 ((c.length+2+N:Int)<=sz->jd (ar sz c l a w) (N:Int)=some (⟨(c.length:Nat),N⟩,0,ar sz (c++List.replicate (2+N) 0) (wl_ w l [⟨a,4,(c.length:Nat),2+(N:Int),0,true⟩]) a w))/\
 (¬(c.length+2+N:Int)<=sz->jd (ar sz c l a w) (N:Int)=some (⟨0,0⟩,22,ar sz c l a w)):=by
 unfold jd fc
 rw[aj (show ¬(N:Int)<1 by omega),aj (show ¬(N:Int)>64 by omega),bz (x:=2+(N:Int)) (by omega),ai,aj (show ¬2+(N:Int)=0 by omega),ai]
 refine⟨λhf => ?_,λhf => ?_⟩
 ·rw[Yb (by omega) (by omega) (by omega) (by omega),bf,au rfl,show(2+(N:Int)).toNat=2+N by omega]
 ·rw[qt (by omega) hs0 (by omega) (by omega) (by omega),bf,aj (by decide)]
theorem BB{sz a:Int}{w:Bool}{N F W:Nat}{dG:bY}(hl:Ac dG.cO dG.bD dG.gK)(hF:dG.cO=F)(CA:1<=N)(hN:N<=64)(hW:(W:Int)=4+dG.bD)(hs:sz<=1000000000)(hs0:0<=sz)(hK:5000<K){p0:af}(hp:p0.dW=[]) :
 (((4+10*F+N+N*W:Nat):Int)<=sz->∃c,ic K p0 (ar sz [] [] a w) (N:Int) dG=some (0,⟨p0.code,0,1,F,2+10*(F:Int),N,yn (4+10*F+N) W dG.gK 0 N,p0.ak,p0.aa,p0.value,p0.left⟩,ar sz c (wl_ w [] (iP a N F dG.bD)) a w)/\fW sz (iP a N F dG.bD)=iP a N F dG.bD/\oU N F W dG.bD c)/\
 (¬((4+10*F+N+N*W:Nat):Int)<=sz->∃X c,ic K p0 (ar sz [] [] a w) (N:Int) dG=some (22,X,ar sz c (wl_ w [] (fW sz (iP a N F dG.bD))) a w)):=by
 have f1:=hl.f1
 have f2:=hl.f2
 have h1:=hl.a1
 have h2:=hl.a2
 have h3:=hl.m2
 have Jo:N*W<=64*4100:=Nat.mul_le_mul hN (by omega)
 unfold ic
 rw[hF]
 by_cases s1:¬(1:Int)<=sz
 ·rw[qt (c:=[]) (by omega) hs0 (by simp) (by omega) (by show ¬((0:Nat):Int)+1<=sz;omega),bf,aj (by decide)]
  refine⟨λh=>by exfalso;omega,λ_ => ?_⟩
  have:wl_ w [] (fW sz (iP a N F dG.bD))=[]:=by
   rw[iP,afy,afy,fW,au ⟨rfl,by show(0:Int)+1>sz;omega⟩,qm]
  rw[this];exact⟨_,[],rfl⟩
 have s1:=Decidable.not_not.1 s1
 rw[Yb (c:=[]) (by simp) (by omega) (by omega) (by show((0:Nat):Int)+1<=sz;omega),bf,au rfl]
 have k0:=So w [] [(⟨a,4,(([]:List Int).length:Nat),1,0,true⟩:az)]
 simp only[agF,afY]at k0
 obtain⟨KE,KF⟩:=sZ (K:=K) (sz:=sz) (a:=a) (w:=w) (F:=F) (by omega) (by omega) hs hs0 hK (l:=wl_ w [] [(⟨a,4,(([]:List Int).length:Nat),1,0,true⟩:az)]) (by simp only[afY];omega)
 have Jp:fW sz (iP a N F dG.bD)=⟨a,4,0,1,0,true⟩::fW sz (⟨a,4,1,1+10*(F:Int),0,true⟩::qu a 0 F++(⟨a,4,2+10*(F:Int),2+(N:Int),0,true⟩::ox a dG.bD (4+10*F+N:Nat) N++[⟨a,3,1,1,1,true⟩])):=by
  rw[iP,afy,afy,fW,aj (λh=>absurd h.2 (by show ¬(0:Int)+1>sz;omega))];rfl
 have e0:ar sz ([]++List.replicate (1:Int).toNat 0) (wl_ w [] [(⟨a,4,(([]:List Int).length:Nat),1,0,true⟩:az)]) a w=ar sz [0] (wl_ w [] [(⟨a,4,(([]:List Int).length:Nat),1,0,true⟩:az)]) a w:=rfl
 rw[e0]
 by_cases s2:¬(2+10*F:Int)<=sz
 ·rw[KF s2,bf,aj (by decide)]
  refine⟨λh=>by exfalso;omega,λ_ => ?_⟩
  rw[Jp,afy,fW,au ⟨rfl,by show(1:Int)+(1+10*(F:Int))>sz;omega⟩]
  exact⟨_,_,rfl⟩
 have s2:=Decidable.not_not.1 s2
 obtain⟨c1,q1,q2,q3,q4⟩:=KE s2
 rw[q1,bf,au rfl]
 have HC:fW sz (iP a N F dG.bD)=⟨a,4,0,1,0,true⟩::⟨a,4,1,1+10*(F:Int),0,true⟩::(qu a 0 F++fW sz (⟨a,4,2+10*(F:Int),2+(N:Int),0,true⟩::ox a dG.bD (4+10*F+N:Nat) N++[⟨a,3,1,1,1,true⟩])):=by
  rw[Jp,afy,fW,aj (λh=>absurd h.2 (by show ¬(1:Int)+(1+10*(F:Int))>sz;omega)),oc _ _ (rM F 0)]
 have kf:(⟨a,4,1,1+10*(F:Int),0,true⟩::qu a 0 F:List az).length=F+1:=by rw[af2,uB]
 have k1:=So w (wl_ w [] [(⟨a,4,(([]:List Int).length:Nat),1,0,true⟩:az)]) (⟨a,4,1,1+10*(F:Int),0,true⟩::qu a 0 F)
 rw[kf]at k1
 obtain⟨KG,KH⟩:=abd (sz:=sz) (a:=a) (w:=w) (N:=N) CA hN hs hs0 (c:=c1) (by omega) (l:=wl_ w (wl_ w [] [(⟨a,4,(([]:List Int).length:Nat),1,0,true⟩:az)]) (⟨a,4,1,1+10*(F:Int),0,true⟩::qu a 0 F)) (by simp only[afY];simp only[afY]at k1;omega)
 by_cases s3:¬(c1.length+2+N:Int)<=sz
 ·rw[KH s3,bf,aj (by decide)]
  refine⟨λh=>by exfalso;omega,λ_ => ?_⟩
  rw[HC,afy,fW,au ⟨rfl,by show 2+10*(F:Int)+(2+(N:Int))>sz;omega⟩,af0]
  rw[lN];exact⟨_,c1,rfl⟩
 have s3:=Decidable.not_not.1 s3
 rw[KG s3,bf,au rfl,hp,lN,lN]
 have yo:(c1++List.replicate (2+N) 0).length=4+10*F+N:=by rw[ad9,aeb];omega
 have kl:∀X:List az,X.length<=100000->(wl_ w [] X).length<=100000:=λX hX=>agq (So w [] X) (by simpa using hX)
 obtain⟨d1,d2⟩:=D7 (K:=K) hl hs hs0 hN (B:=4+10*F+N) (by omega) hW (p0:=p0) (iw:=((([]:List Int).length:Nat):Int)) (lQ:=⟨1,F⟩) (r32:=⟨(c1.length:Nat),N⟩) (a:=a) (w:=w) N K 0 (c1++List.replicate (2+N) 0)
  (wl_ w [] ([(⟨a,4,(([]:List Int).length:Nat),1,0,true⟩:az)]++(⟨a,4,1,1+10*(F:Int),0,true⟩::qu a 0 F++[⟨a,4,(c1.length:Nat),2+(N:Int),0,true⟩]))) [] (by omega) (by omega) (by rw[yo];omega) rfl (by
   have:=kl ([(⟨a,4,(([]:List Int).length:Nat),1,0,true⟩:az)]++(⟨a,4,1,1+10*(F:Int),0,true⟩::qu a 0 F++[⟨a,4,(c1.length:Nat),2+(N:Int),0,true⟩])) (by rw[ad9,ad9,kf];simp;omega)
   omega)
 rw[yo]at d1 d2
 rw[agQ]at d1 d2
 have Jq:fW sz (iP a N F dG.bD)=⟨a,4,0,1,0,true⟩::⟨a,4,1,1+10*(F:Int),0,true⟩::(qu a 0 F++(⟨a,4,2+10*(F:Int),2+(N:Int),0,true⟩::fW sz (ox a dG.bD (4+10*F+N:Nat) N++[⟨a,3,1,1,1,true⟩]))):=by
  rw[HC,afy,fW,aj (λh=>absurd h.2 (by show ¬2+10*(F:Int)+(2+(N:Int))>sz;omega))]
 by_cases s4:¬((4+10*F+N+N*W:Nat):Int)<=sz
 ·refine⟨λh=>absurd h s4,λ_ => ?_⟩
  obtain⟨X,c',⟨r1,r2⟩ | r1⟩:=d2 s4
  ·rw[r1,yw,lN,Jq,r2]
   refine⟨X,c',?_⟩
   congr 5
   rw[q2]
   simp only[afy,afU,aeA,afY]
   rw[show((2+10*F:Nat):Int)=2+10*(F:Int) by omega];rfl
  ·exfalso;omega
 have s4:=Decidable.not_not.1 s4
 refine⟨λ_ => ?_,λh=>absurd s4 h⟩
 obtain⟨c',r1,r0,r2,r3,r4⟩:=d1 s4
 have b0:ag c' 1=0:=by
  rw[r3 1 (by omega),gU (by omega),q4 1 (by omega) (λf _=>by omega)]
 have kk:∀X:List az,X.length<=100000->(wl_ w [] X).length<=100000:=λX hX=>agq (So w [] X) (by simpa using hX)
 have kd:=uC (a:=a) (first:=dG.bD) N (4+10*F+N:Nat)
 have ea:∀l:List az,l.length<=100000->(bH (fE (⟨1,F⟩:aF)) λDI=>iQ (bg (ar sz c' l a w) DI) λym yG=>iQ (dr ym) λBo Bp=>some (Bo,yG))=some (4,ar sz (c'.set 1 1) (wl_ w l [⟨a,3,1,1,1,true⟩]) a w):=λl hl=>by
  unfold fE dU jf
  simp only[au (show(1:Int)>=0 by decide),au (show(F:Int)>=1 by omega),au (show(F:Int)<=4096 by omega),au (show(0:Int)>=0 by decide),afC (show(0:Int)<F by omega),ai,if_true,aj (show ¬(0:Int)<0 by decide),aj (show ¬(0:Int)>=8 by decide)]
  unfold bg dY iK
  dsimp only
  rw[aj (by decide),au rfl,ai,Bz (by omega) (by decide) (by omega),bf,au rfl]
  rw[show(1:Int).toNat=1 from rfl,b0,show wi ((0:Int)+1)=1 from rfl,au (by decide),afC (show(1:Int)<=(F:Int) by omega),ai,au rfl]
  rfl
 have KI:∀(l:List az),l.length<=100000->∀(f:Int->ae->Option (Int×af×ae)),(bH (fE (⟨1,F⟩:aF)) λDI=>iQ (bg (ar sz c' l a w) DI) λym yG=>iQ (dr ym) λBo Bp=>f Bo yG)=f 4 (ar sz (c'.set 1 1) (wl_ w l [⟨a,3,1,1,1,true⟩]) a w):=λl hl f=>by
  have h:=ea l hl
  cases e1:fE (⟨1,F⟩:aF)with
  | none=>rw[e1]at h;simp[bH]at h
  | some x =>
   rw[e1,ai]at h;rw[ai]
   cases e2:bg (ar sz c' l a w) x with
   | none=>rw[e2]at h;simp[iQ]at h
   | some y =>
    obtain⟨y1,y2⟩:=y
    rw[e2,bJ]at h;rw[bJ]
    cases e3:dr y1 with
    | none=>rw[e3]at h;simp[iQ]at h
    | some u =>
     obtain⟨u1,u2⟩:=u
     rw[e3,bJ]at h;rw[bJ]
     have:=Prod.mk.inj (Option.some.inj h)
     rw[this.1,this.2]
 have hlen:∀X:List az,X.length<=100000->(wl_ w (wl_ w [] X) (ox a dG.bD (4+10*F+N:Nat) N)).length<=200000:=λX hX=>by
  have:=So w (wl_ w [] X) (ox a dG.bD (4+10*F+N:Nat) N)
  have:=kk X hX
  omega
 rw[r1,yu,lN,KI _ (kk _ (by rw[ad9,ad9,ad9,kf,kd];simp;omega)) (λBo yG=>if Bo=4 then some (0,_,yG)else some (22,_,yG)),au rfl]
 have HD:fW sz (iP a N F dG.bD)=iP a N F dG.bD:=by
  rw[Jq]
  rw[rL _ _ r0,show fW sz [(⟨a,3,1,1,1,true⟩:az)]=[⟨a,3,1,1,1,true⟩] by rw[fW,aj (λh=>absurd h.1 (by show ¬(3:Int)=4;decide)),fW],iP]
  simp only[afy,afU,aeA]
 refine⟨c'.set 1 1,?_,HD,?_⟩
 ·rw[lN,q2]
  refine afr some (aeB rfl (aeB ?_ ?_))
  ·simp only[afU,afY]
   rw[show((2+10*F:Nat):Int)=2+10*(F:Int) by omega];rfl
  ·have:(([(⟨a,4,(([]:List Int).length:Nat),1,0,true⟩:az)]++(⟨a,4,1,1+10*(F:Int),0,true⟩::qu a 0 F++[⟨a,4,((2+10*F:Nat):Int),2+(N:Int),0,true⟩]))++ox a dG.bD (4+10*F+N:Nat) N)++[⟨a,3,1,1,1,true⟩]=iP a N F dG.bD:=by
    rw[iP,show((2+10*F:Nat):Int)=2+10*(F:Int) by omega]
    simp only[afy,afU,aeA,afY];rfl
   rw[this]
 ·have Dq:(c'.set 1 (1:Int)).length=c'.length:=acG
  refine⟨by rw[Dq,r2],?_,?_,λf hf r hr => ?_,λr hr => ?_,λi hi r hr => ?_⟩
  ·rw[mu (by omega),aj (by decide),r3 0 (by omega),gU (by omega),q4 0 (by omega) (λf _=>by omega)]
  ·rw[mu (by omega),au rfl]
  ·rw[mu (by omega),iO_,r3 _ (by omega),gU (by omega)]
   by_cases e:r=0
   ·subst e;rw[au rfl];exact q3 f hf
   ·rw[aj e,q4 _ (by omega) (λg _=>by omega)]
  ·rw[mu (by omega),iO_,r3 _ (by omega),jR (by omega),Sd (by omega)]
  ·have:=afm W (show i+1<=N by omega)
   rw[agm]at this
   rw[mu (by omega),iO_]
   exact r4 i (agP _) hi r hr
end
section
variable {K:Nat}
theorem kD{α:Type}[Inhabited α]{l:List α}{i:Nat}(h:i<l.length):l.drop i=ag l i::l.drop (i+1):=by
 rw[aeg h];unfold ag;rw[List.getD_eq_getElem?_getD,List.getElem?_eq_getElem h];rfl
theorem xb{p:ay}(hv:Valid p):∀(d k i:Nat) (l:List ax),i+d=p.aB.length->d<k->l.length=i->gf K p k l (i:Int)=some (l++p.aB.drop i)
 | d,k,i,l,hd,hk,hl=>by
  obtain⟨k,rfl⟩ :∃m,k=m+1:=⟨k-1,by omega⟩
  have:=hv.n32
  rw[gf]
  by_cases hi:i<p.aB.length
  ·obtain⟨d,rfl⟩ :∃m,d=m+1:=⟨d-1,by omega⟩
   have:=(hv.sH i hi).qk
   rw[iQ_,au ⟨by omega,by omega⟩,Zi,au (by simp;omega),iQ_,mm (by omega),afU,xb hv d k (i+1) _ (by omega) (by omega) (by simp[hl]),kD hi,aeA];rfl
  ·rw[iO_,afR (by omega),af0]
def HE:aK:=⟨0,0,0,0,0,0,0,0,0,0,0,0,0,false,0,0⟩
def HF:aV:=⟨0,0,0,0,0,0,0,0,0⟩
def HG:aX:=⟨0,0,0,0,0,0,0,0,0,List.replicate 64 ⟨0,0⟩,⟨0,0,0,0,0,0,0,0,0,0,0,0,0,false,0,0⟩⟩
def s5(i:Int):aW:=⟨i,9,-1,0,0,0,0,0,HE,HF,HG,false⟩
def Sp(i:Nat):Nat->List aW
 | 0=>[]
 | d+1=>s5 i::Sp (i+1) d
theorem lA:∀(d i:Nat),(Sp i d).length=d
 | 0,i=>rfl
 | d+1,i=>by rw[Sp,af2,lA d (i+1)]
theorem nS:∀(d i j:Nat),j<d->ag (Sp i d) j=s5 ((i+j:Nat):Int)
 | d+1,i,0,_=>rfl
 | d+1,i,j+1,h=>by
  have:=nS d (i+1) j (by omega)
  rw[show i+1+j=i+(j+1) by omega]at this
  exact this
theorem rN{N:Nat}(hN:N<=64):∀(d k i:Nat) (l:List aW),i+d=N->d<k->l.length=i->gg K (N:Int) k l (i:Int)=some (l++Sp i d)
 | d,k,i,l,hd,hk,hl=>by
  obtain⟨k,rfl⟩ :∃m,k=m+1:=⟨k-1,by omega⟩
  rw[gg]
  by_cases hi:i<N
  ·obtain⟨d,rfl⟩ :∃m,d=m+1:=⟨d-1,by omega⟩
   rw[iQ_,iQ_,mm (by omega),rN hN d k (i+1) _ (by omega) (by omega) (by simp[hl]),Sp,aeA];rfl
  ·rw[iO_]
   obtain rfl:d=0:=by omega
   rw[Sp,af0]
def xd:aO:=⟨0,0,0,0,0,0,List.replicate 16 0⟩
def D8(p:ay)(args:List Int)(N F W:Nat)(most:Int):af:=
 { code:=p.aB,result:=0,cU:=1,cw:=F,dM:=2+10*(F:Int),bT:=N,dW:=yn (4+10*F+N) W most 0 N,
   ak:=(List.replicate F xd).set 0 ⟨0,0,-1,0,0,1,vj 16 args (List.replicate 16 0)⟩,
   aa:=(Sp 0 N).set 0 {s5 0 with an:=0,from_:=-1,aJ:=0},value:=0,left:=false}
theorem s6{α:Type}{l:List α}{i:Nat}{x y:α}:(l.set i x).set i y=l.set i y:=by rw[agu]
theorem BC{sz a:Int}{w:Bool}{p:ay}{args:List Int}{N F W:Nat}{dG:bY}(hv:Valid p)(ha:(args.length:Int)=(ag p.aB 0).MW)(hl:Ac dG.cO dG.bD dG.gK)(hF:dG.cO=F)(CA:1<=N)(hN:N<=64)(hW:(W:Int)=4+dG.bD)(hs:sz<=1000000000)(hs0:0<=sz)(hK:5000<K)(hr:fV K p args (N:Int) dG=some 0) :
 (((4+10*F+N+N*W:Nat):Int)<=sz->∃c,ie K (ar sz [] [] a w) p args (N:Int) dG=some (some (D8 p args N F W dG.gK),0,ar sz c (wl_ w [] (iP a N F dG.bD)) a w)/\fW sz (iP a N F dG.bD)=iP a N F dG.bD/\oU N F W dG.bD c)/\
 (¬((4+10*F+N+N*W:Nat):Int)<=sz->∃c,ie K (ar sz [] [] a w) p args (N:Int) dG=some (none,22,ar sz c (wl_ w [] (fW sz (iP a N F dG.bD))) a w)):=by
 have f1:=hl.f1
 have f2:=hl.f2
 have KJ:=(hv.sH 0 (by have:=hv.n1;omega)).p8
 have Ad:=xb (K:=K) hv p.aB.length K 0 [] (by omega) (by have:=hv.n32;omega) rfl
 rw[agQ,afU,afM]at Ad
 unfold ie
 rw[hr,ai,au rfl,au ⟨by omega,by omega⟩,Ad,ai]
 obtain⟨l1,l2⟩:=BB (K:=K) (a:=a) (w:=w) hl hF CA hN hW hs hs0 hK (p0:=(⟨p.aB,0,0,0,0,0,([]:List aT),List.replicate dG.cO.toNat (⟨0,0,0,0,0,0,List.replicate 16 (0:Int)⟩:aO),([]:List aW),0,false⟩:af)) rfl
 refine⟨λhf => ?_,λhf => ?_⟩
 ·obtain⟨c,e1,e2,e3⟩:=l1 hf
  have KL:dG.cO.toNat=F:=by omega
  have hact:=rN (K:=K) hN N K 0 [] (by omega) (by omega) rfl
  rw[agQ,afU]at hact
  refine⟨c,?_,e2,e3⟩
  rw[e1,bf,au rfl]
  dsimp only
  rw[KL,au ⟨by decide,by rw[aeb];omega⟩,au ⟨by decide,by rw[acG,aeb];omega⟩,iQ_,hact,ai,au ⟨by decide,by rw[lA];omega⟩]
  rw[s6,s6,s6,nS N 0 0 (by omega)]
  rfl
 ·obtain⟨X,c,e1⟩:=l2 hf
  rw[e1,bf,aj (by decide)]
  exact⟨c,rfl⟩
end
end Mo
end
section
namespace Am
def bq{α β:Type}[DecidableEq α](f:α->β)(a:α)(v:β):α->β:=λx=>if x=a then v else f x
@[simp] theorem aL{α β:Type}[DecidableEq α](f:α->β)(a:α)(v:β):bq f a v a=v:=by simp[bq]
theorem aI{α β:Type}[DecidableEq α]{f:α->β}{a x:α}{v:β}(h:x≠a):bq f a v x=f x:=by simp[bq,h]
theorem bM{α β:Type}[DecidableEq α](f:α->β)(a x:α)(v:β):bq f a v x=if x=a then v else f x:=rfl
inductive CB
 | const (a:Nat) (k:Int) | move (a b:Nat) | arith (op:Int) (a b c:Nat) | jump (a:Nat) | branch (a b:Nat)
 | spawn (s f c:Nat) | sync | load (a s:Nat) | gH (a:Nat) | ret (a:Nat)
deriving DecidableEq,Inhabited
structure dH where
 N:Nat
 F:Nat
 first:Nat
 most:Nat
 Ae:Nat
 len:Nat->Nat
 params:Nat->Nat
 bK:Nat->Nat
 code:Nat->Nat->CB
 ap:Int->Int->Int->Int
 pd:Int->Nat->Int
inductive jr
 | result | next | join (f:Nat) | mark (f:Nat) | slot (f s:Nat) | iR | Vu | flag (i:Nat)
 | top (i:Nat) | bot (i:Nat) | buf (i:Nat) | cap (i g:Nat) | el (i g n:Nat)
deriving DecidableEq
structure Fr where
 fn:Nat
 ag:Nat
 par:Nat
 slot:Nat
 aR:Nat
 gH:Int
 bK:Nat->Int
structure Ev where
 kind:Nat
 an:Int
 x:Int
 v:Int
structure Acc where
 kind:Nat
 a:jr
 x:Int
 y:Int
 ok:Bool
inductive Pc
 | halted | full | start (x:Int) | run | fork (c:Nat) | iF | out (p c:Nat) | take (p c:Nat)
 | done | tell (j:Nat) | kE (j:Nat)
 | nk (c:Nat) | lO (c:Nat) (b:Int) | iG (c:Nat) (b t:Int) | iH (c:Nat) (b t:Int)
 | grow (c:Nat) (b t cc:Int) | fH (c:Nat) (b t cc:Int) | dZ (c:Nat) (b t cc n:Int)
 | ew (c:Nat) (b t cc n x:Int) | fI (c:Nat) (b t cc:Int) | ef (c:Nat) (b cc:Int) | gS (c:Nat) (b:Int)
 | pG | ji (j:Nat) | j5 (j:Nat)
 | oV | RU (b:Int) | gM (b:Int) | nU (b:Int) | gl (t:Int) | jS (b t:Int)
 | ij (b t cc:Int) | jA (b t x:Int) | iL (t x:Int) (nM:Bool)
 | gG | jT (v:Nat) (t:Int) | gN (v:Nat) (t:Int) | gp (v:Nat) (t:Int) (g:Nat)
 | eZ (v:Nat) (t:Int) (g:Nat) (cc:Int) | fJ (v:Nat) (t x:Int)
 | nV | flag | sleep | jM | od (j:Nat) | nl (j:Nat) (t:Int) | parked | back (h:Bool) | j6 (h:Bool)
deriving DecidableEq
inductive Loc
 | free | ct (i:Nat) | yp (i:Nat) | pop (i:Nat) | held (i:Nat) | Q5 (i:Nat) | waiting | Sq (i:Nat) | fin (i:Nat) | gone
deriving DecidableEq
structure St where
 mem:jr->Int
 pc:Nat->Pc
 hold:Nat->Option Nat
 tries:Nat->Nat
 fr:Nat->Fr
 nf:Nat
 cur:Nat->Nat
 base:Nat->Nat->Int
 size:Int
 val:Option Int
 qv:Bool
 loc:Nat->Loc
 q:Nat->List Nat
 pop:Nat->Option Nat
 aR:Nat->List Nat
structure Out where
 s:St
 ev:Option Ev
 acc:Option Acc
def ix(n c:Int):Nat:=(n%c).toNat
def cW(C:dH)(cc:Int):Int:=if 2*cc<=C.most then 2*cc else C.most
def rO(C:dH)(i:Nat):Nat:=(i+1)%C.N
namespace St
def wr(s:St)(a:jr)(v:Int):St:={s with mem:=bq s.mem a v}
def to(s:St)(i:Nat)(p:Pc):St:={s with pc:=bq s.pc i p}
def holds(s:St)(i:Nat)(f:Option Nat):St:={s with hold:=bq s.hold i f}
def put(s:St)(f:Nat)(l:Loc):St:={s with loc:=bq s.loc f l}
def iM(s:St)(i n:Nat):St:={s with tries:=bq s.tries i n}
def lay(s:St)(f:Nat)(x:Fr):St:={s with fr:=bq s.fr f x}
def gy(s:St)(j:Nat)(l:List Nat):St:={s with q:=bq s.q j l}
def eI(s:St)(i:Nat)(x:Option Nat):St:={s with pop:=bq s.pop i x}
def ot(s:St)(f:Nat)(l:List Nat):St:={s with aR:=bq s.aR f l}
end St
def fX(a:jr)(v:Int):Option Acc:=some ⟨0,a,v,0,true⟩
def iq(a:jr)(v:Int):Option Acc:=some ⟨1,a,v,0,true⟩
def pH(a:jr)(o n:Int)(ok:Bool):Option Acc:=some ⟨2,a,o,n,ok⟩
def mK(a:jr)(d v:Int):Option Acc:=some ⟨3,a,d,v,true⟩
def BE(a:jr)(n:Int):Option Acc:=some ⟨4,a,n,0,true⟩
def ev(k:Nat)(f x v:Int):Option Ev:=some ⟨k,f,x,v⟩
def fK(s:St)(C:dH)(i j:Nat)(acc:Option Acc):Out:=
 if j=i then⟨s.to i .halted,ev 10 0 0 0,acc⟩else⟨s.to i (.tell j),none,acc⟩
def looking(s:St)(C:dH)(i j:Nat)(acc:Option Acc):Out:=
 if j=i then⟨s.to i .parked,ev 9 0 0 0,acc⟩else⟨s.to i (.od j),none,acc⟩
def pI(s:St)(C:dH)(i:Nat):St:=s.to i (if C.N=1 then .flag else .gG)
def nn(s:St)(C:dH)(i:Nat)(h:Bool)(acc:Option Acc):Out:=
 if h then⟨s.to i .halted,ev 10 0 0 0,acc⟩else⟨pI (s.iM i 0) C i,none,acc⟩
def got(s:St)(i:Nat)(x:Int)(v:Int):St:=
 ((s.holds i (some x.toNat)).to i (.start v)).put x.toNat (.held i)
def dQ(C:dH)(p:Fr)(f:Nat)(sl g c:Nat):Fr:=
 { fn:=g,ag:=0,par:=f,slot:=sl,aR:=0,gH:=C.pd p.gH p.aR,bK:=λr=>if r<C.params g then p.bK (c+r)else 0}
def instr(C:dH)(s:St)(i:Nat):Out:=
 let f:=(s.hold i).getD 0
 let x:=s.fr f
 let y:Fr:={x with ag:=x.ag+1}
 match C.code x.fn x.ag with
 | .const a k=>⟨s.lay f {y with bK:=bq x.bK a k},none,none⟩
 | .move a b=>⟨s.lay f {y with bK:=bq x.bK a (x.bK b)},none,none⟩
 | .arith op a b c=>⟨s.lay f {y with bK:=bq x.bK a (C.ap op (x.bK b) (x.bK c))},none,none⟩
 | .jump a=>⟨s.lay f {y with ag:=a},none,none⟩
 | .branch a b=>⟨s.lay f (if x.bK a≠0 then {y with ag:=b}else y),none,none⟩
 | .gH a=>⟨s.lay f {y with bK:=bq x.bK a x.gH},none,none⟩
 | .load a sl=>⟨s.lay f {y with bK:=bq x.bK a (s.mem (.slot f sl))},none,fX (.slot f sl) (s.mem (.slot f sl))⟩
 | .spawn sl g c =>
  let n:=s.mem .next+1
  let s:=(s.wr .next n).lay f y
  if (C.F:Int)<=n-1 then⟨{s with qv:=true}.to i .full,ev 11 (-1) 0 0,mK .next 1 n⟩
  else ⟨{((s.lay f {y with aR:=x.aR+1}).lay s.nf (dQ C x f sl g c))with nf:=s.nf+1}.put s.nf (.ct i) |>.to i (.fork s.nf),none,mK .next 1 n⟩
 | .sync =>
  let n:=s.mem (.join f)-1
  let s:=(s.wr (.join f) n).lay f y
  if 0<n then⟨((s.holds i none).to i .oV).put f .waiting,ev 4 f 0 0,mK (.join f) (-1) n⟩
  else ⟨(s.to i .iF).put f (.Q5 i),none,mK (.join f) (-1) n⟩
 | .ret a =>
  let v:=x.bK a
  let s:=s.lay f y
  if f=0 then⟨{(((s.wr .result v).holds i none).to i .done).put 0 (.fin i)with val:=some v},ev 6 0 (-1) v,iq .result v⟩
  else ⟨(((s.wr (.slot x.par x.slot) v).holds i none).to i (.out x.par f)).put f (.fin i),ev 6 f x.par v,iq (.slot x.par x.slot) v⟩
def step(C:dH)(s:St)(i:Nat)(d:Int):Out:=
 let f:=(s.hold i).getD 0
 match s.pc i with
 | .halted | .full=>⟨s,none,none⟩
 | .start x=>let v:=s.mem (.mark f)+1;⟨(s.wr (.mark f) v).to i .run,ev 1 f x v,mK (.mark f) 1 v⟩
 | .run=>instr C s i
 | .fork c=>let v:=s.mem (.join f)+1;⟨((s.wr (.join f) v).ot f (c::s.aR f)).to i (.nk c),none,mK (.join f) 1 v⟩
 | .iF=>⟨((s.wr (.join f) 1).to i .run).put f (.held i),ev 5 f 0 0,iq (.join f) 1⟩
 | .out p c =>
  let n:=s.mem (.join p)-1
  let s:=((s.wr (.join p) n).ot p ((s.aR p).erase c)).put c .gone
  if n=0 then⟨(s.to i (.take p c)).put p (.Sq i),none,mK (.join p) (-1) n⟩else⟨s.to i .oV,none,mK (.join p) (-1) n⟩
 | .take p c=>⟨(((s.wr (.join p) 1).holds i (some p)).to i .run).put p (.held i),ev 7 p c 0,iq (.join p) 1⟩
 | .done=>fK (s.wr .Vu 1) C i (rO C i) (iq .Vu 1)
 | .tell j=>if s.mem (.flag j)=1 then⟨(s.wr (.flag j) 0).to i (.kE j),none,pH (.flag j) 1 0 true⟩
  else fK s C i (rO C j) (pH (.flag j) 1 0 false)
 | .kE j=>let v:=s.mem .iR-1;fK (s.wr .iR v) C i (rO C j) (mK .iR (-1) v)
 | .nk c=>⟨s.to i (.lO c (s.mem (.bot i))),none,fX (.bot i) (s.mem (.bot i))⟩
 | .lO c b=>⟨s.to i (.iG c b (s.mem (.top i))),none,fX (.top i) (s.mem (.top i))⟩
 | .iG c b t=>⟨s.to i (.iH c b t),none,fX (.buf i) (s.mem (.buf i))⟩
 | .iH c b t =>
  let cc:=s.mem (.cap i (s.cur i))
  let a:=fX (.cap i (s.cur i)) cc
  if b-t<cc then⟨s.to i (.ef c b cc),none,a⟩
  else if(C.most:Int)<=cc then⟨{s with qv:=true}.to i .full,ev 11 c 1 0,a⟩
  else ⟨s.to i (.grow c b t cc),none,a⟩
 | .grow c b t cc =>
  let g:=s.cur i+1
  ⟨{s with base:=bq s.base i (bq (s.base i) g s.size),size:=s.size+1+cW C cc,
            mem:=λa=>match a with | .cap i' g'=>if i'=i/\g'=g then 0 else s.mem a | .el i' g' _=>if i'=i/\g'=g then 0 else s.mem a | _=>s.mem a}.to i (.fH c b t cc),
   none,BE (.cap i g) (1+cW C cc)⟩
 | .fH c b t cc=>⟨(s.wr (.cap i (s.cur i+1)) (cW C cc)).to i (.dZ c b t cc t),none,iq (.cap i (s.cur i+1)) (cW C cc)⟩
 | .dZ c b t cc n=>let x:=s.mem (.el i (s.cur i) (ix n cc));⟨s.to i (.ew c b t cc n x),none,fX (.el i (s.cur i) (ix n cc)) x⟩
 | .ew c b t cc n x =>
  ⟨(s.wr (.el i (s.cur i+1) (ix n (cW C cc))) x).to i (if n+1<b then .dZ c b t cc (n+1)else .fI c b t cc),none,iq (.el i (s.cur i+1) (ix n (cW C cc))) x⟩
 | .fI c b t cc =>
  let a:=s.base i (s.cur i+1)
  ⟨{s.wr (.buf i) a with cur:=bq s.cur i (s.cur i+1)}.to i (.ef c b (cW C cc)),none,iq (.buf i) a⟩
 | .ef c b cc=>⟨(s.wr (.el i (s.cur i) (ix b cc)) c).to i (.gS c b),none,iq (.el i (s.cur i) (ix b cc)) c⟩
 | .gS c b=>⟨(((s.wr (.bot i) (b+1)).gy i (s.q i++[c])).put c (.yp i)).to i .pG,ev 2 c f (s.fr c).gH,iq (.bot i) (b+1)⟩
 | .pG=>let n:=s.mem .iR;⟨s.to i (if 0<n/\1<C.N then .ji (rO C i)else .run),none,fX .iR n⟩
 | .ji j =>
  if s.mem (.flag j)=1 then⟨(s.wr (.flag j) 0).to i (.j5 j),none,pH (.flag j) 1 0 true⟩
  else ⟨s.to i (if rO C j=i then .run else .ji (rO C j)),none,pH (.flag j) 1 0 false⟩
 | .j5 j=>let v:=s.mem .iR-1;⟨(s.wr .iR v).to i .run,ev 3 f j 0,mK .iR (-1) v⟩
 | .oV=>⟨s.to i (.RU (s.mem (.bot i)-1)),none,fX (.bot i) (s.mem (.bot i))⟩
 | .RU b=>⟨s.to i (.gM b),none,fX (.buf i) (s.mem (.buf i))⟩
 | .gM b=>⟨(s.wr (.bot i) b).to i (.nU b),none,iq (.bot i) b⟩
 | .nU b =>
  let t:=s.mem (.top i)
  let a:=fX (.top i) t
  if t<b then
   let x:=(s.q i).getLastD 0
   ⟨(((s.to i (.jS b t)).gy i (s.q i).dropLast).put x (.pop i)).eI i (some x),none,a⟩
  else if t=b then⟨s.to i (.jS b t),none,a⟩else⟨s.to i (.gl t),none,a⟩
 | .gl t=>⟨pI ((s.wr (.bot i) t).iM i 0) C i,none,iq (.bot i) t⟩
 | .jS b t=>let cc:=s.mem (.cap i (s.cur i));⟨s.to i (.ij b t cc),none,fX (.cap i (s.cur i)) cc⟩
 | .ij b t cc =>
  let x:=s.mem (.el i (s.cur i) (ix b cc))
  let a:=fX (.el i (s.cur i) (ix b cc)) x
  if t<b then⟨(got s i x (-1)).eI i none,none,a⟩else⟨s.to i (.jA b t x),none,a⟩
 | .jA b t x =>
  if s.mem (.top i)=t then⟨((((s.wr (.top i) (t+1)).to i (.iL t x true)).gy i []).put x.toNat (.pop i)).eI i (some x.toNat),none,pH (.top i) t (t+1) true⟩
  else ⟨s.to i (.iL t x false),none,pH (.top i) t (t+1) false⟩
 | .iL t x nM =>
  let s:=(s.wr (.bot i) (t+1)).iM i 0
  ⟨if nM then(got s i x (-1)).eI i none else pI s C i,none,iq (.bot i) (t+1)⟩
 | .gG =>
  let v:=((i+1+(d%((C.N:Int)-1)).toNat)%C.N)
  ⟨s.to i (.jT v (s.mem (.top v))),none,fX (.top v) (s.mem (.top v))⟩
 | .jT v t =>
  let b:=s.mem (.bot v)
  if b<=t then⟨(s.iM i (s.tries i+1)).to i .nV,none,fX (.bot v) b⟩else⟨s.to i (.gN v t),none,fX (.bot v) b⟩
 | .gN v t=>⟨s.to i (.gp v t (s.cur v)),none,fX (.buf v) (s.mem (.buf v))⟩
 | .gp v t g=>let cc:=s.mem (.cap v g);⟨s.to i (.eZ v t g cc),none,fX (.cap v g) cc⟩
 | .eZ v t g cc=>let x:=s.mem (.el v g (ix t cc));⟨s.to i (.fJ v t x),none,fX (.el v g (ix t cc)) x⟩
 | .fJ v t x =>
  if s.mem (.top v)=t then⟨got ((s.wr (.top v) (t+1)).gy v (s.q v).tail) i x v,ev 8 x v 0,pH (.top v) t (t+1) true⟩
  else ⟨(s.iM i (s.tries i+1)).to i .nV,none,pH (.top v) t (t+1) false⟩
 | .nV =>
  let d:=s.mem .Vu
  if d=1 then⟨s.to i .halted,ev 10 0 0 0,fX .Vu d⟩
  else ⟨s.to i (if s.tries i<3 then .gG else .flag),none,fX .Vu d⟩
 | .flag=>⟨(s.wr (.flag i) 1).to i .sleep,none,iq (.flag i) 1⟩
 | .sleep=>let v:=s.mem .iR+1;⟨(s.wr .iR v).to i .jM,none,mK .iR 1 v⟩
 | .jM=>let d:=s.mem .Vu;if d=1 then⟨s.to i (.back true),none,fX .Vu d⟩else looking s C i (rO C i) (fX .Vu d)
 | .od j=>⟨s.to i (.nl j (s.mem (.top j))),none,fX (.top j) (s.mem (.top j))⟩
 | .nl j t=>let b:=s.mem (.bot j);if t<b then⟨s.to i (.back false),none,fX (.bot j) b⟩else looking s C i (rO C j) (fX (.bot j) b)
 | .parked=>let v:=s.mem (.flag i);if v=1 then⟨s,none,fX (.flag i) v⟩else⟨pI (s.iM i 0) C i,none,fX (.flag i) v⟩
 | .back h=>if s.mem (.flag i)=1 then⟨(s.wr (.flag i) 0).to i (.j6 h),none,pH (.flag i) 1 0 true⟩else nn s C i h (pH (.flag i) 1 0 false)
 | .j6 h=>let v:=s.mem .iR-1;nn (s.wr .iR v) C i h (mK .iR (-1) v)
theorem BF{m n c:Int}(hc:0<c)(h:ix m c=ix n c)(h1:m-n<c)(h2:n-m<c):m=n:=by
 have a1:=af8 m (b:=c) (by omega)
 have a2:=af8 n (b:=c) (by omega)
 have b1:=acH m hc
 have b2:=acH n hc
 have h':m%c=n%c:=by unfold ix at h;omega
 have e1:=Int.mul_ediv_add_emod m c
 have e2:=Int.mul_ediv_add_emod n c
 have h3:m-n=c*(m/c-n/c):=by rw[Int.mul_sub];omega
 have:m/c-n/c=0:=by
  rcases Int.lt_trichotomy (m/c-n/c) 0 with h | h | h
  ·have:c*(m/c-n/c)<=c*(-1):=Int.mul_le_mul_of_nonneg_left (by omega) (by omega)
   omega
  ·exact h
  ·have:c*1<=c*(m/c-n/c):=Int.mul_le_mul_of_nonneg_left (by omega) (by omega)
   omega
 rw[this]at h3;omega
theorem xe{m n c:Int}(hc:0<c)(h1:m-n<c)(h2:n-m<c)(h:m≠n):ix m c≠ix n c:=λe=>h (BF hc e h1 h2)
namespace St
abbrev T(s:St)(j:Nat):Int:=s.mem (.top j)
abbrev B(s:St)(j:Nat):Int:=s.mem (.bot j)
abbrev cc(s:St)(j:Nat):Int:=s.mem (.cap j (s.cur j))
abbrev L(s:St)(j:Nat):Int:=((s.q j).length:Int)
end St
def nq(C:dH)(s:St)(j:Nat)(b t cc:Int):Prop:=s.B j=b/\s.T j+s.L j=b/\s.L j<=s.cc j/\t<=s.T j/\cc=s.cc j/\b-t=cc/\cc<C.most
def mw(C:dH)(s:St)(j:Nat)(n:Int):Prop:=
 s.mem (.cap j (s.cur j+1))=cW C (s.cc j)/\∀m,s.T j<=m->m<n->s.mem (.el j (s.cur j+1) (ix m (cW C (s.cc j))))=s.mem (.el j (s.cur j) (ix m (s.cc j)))
def j7(s:St)(j:Nat)(b t:Int):Prop:=
 s.B j=b/\t<=b/\0<=b/\(t<b->s.T j+s.L j=b/\s.L j+1<=s.cc j/\∃x:Nat,s.pop j=some x/\s.mem (.el j (s.cur j) (ix b (s.cc j)))=x)
  /\(t=b->s.T j+s.L j=b+1/\t<=s.T j/\s.L j<=s.cc j)
def gz(C:dH)(s:St)(j:Nat):Prop:=
 match s.pc j with
 | .lO c b=>s.B j=b/\s.T j+s.L j=b/\s.L j<=s.cc j
 | .iG c b t=>s.B j=b/\s.T j+s.L j=b/\s.L j<=s.cc j/\t<=s.T j/\b-t<=s.cc j
 | .iH c b t=>s.B j=b/\s.T j+s.L j=b/\s.L j<=s.cc j/\t<=s.T j/\b-t<=s.cc j
 | .grow c b t cc=>nq C s j b t cc
 | .fH c b t cc=>nq C s j b t cc
 | .dZ c b t cc n=>nq C s j b t cc/\mw C s j n/\t<=n/\n<b
 | .ew c b t cc n x=>nq C s j b t cc/\mw C s j n/\t<=n/\n<b/\x=s.mem (.el j (s.cur j) (ix n (s.cc j)))
 | .fI c b t cc=>nq C s j b t cc/\mw C s j b
 | .ef c b cc=>s.B j=b/\s.T j+s.L j=b/\s.L j+1<=s.cc j/\cc=s.cc j
 | .gS c b=>s.B j=b/\s.T j+s.L j=b/\s.L j+1<=s.cc j/\s.mem (.el j (s.cur j) (ix b (s.cc j)))=c
 | .RU b=>s.B j=b+1/\s.T j+s.L j=b+1/\s.L j<=s.cc j
 | .gM b=>s.B j=b+1/\s.T j+s.L j=b+1/\s.L j<=s.cc j
 | .nU b=>s.B j=b/\s.T j+s.L j=b+1/\s.L j<=s.cc j
 | .gl t=>s.T j=t/\s.L j=0/\s.B j=t-1
 | .jS b t=>j7 s j b t
 | .ij b t cc=>j7 s j b t/\cc=s.cc j
 | .jA b t x=>s.B j=b/\t=b/\s.T j+s.L j=b+1/\t<=s.T j/\(s.T j=t->s.q j=[x.toNat]/\0<=x)/\s.L j<=s.cc j
 | .iL t x nM=>s.B j=t/\s.T j=t+1/\s.L j=0/\(nM=true->s.pop j=some x.toNat/\0<=x)
 | _=>s.B j=s.T j+s.L j/\s.L j<=s.cc j
structure D(C:dH)(s:St)(j:Nat):Prop where
 t0:0<=s.T j
 lB:∀g,g<=s.cur j->1<=s.mem (.cap j g)
 mS:s.cc j<=C.most
 nW:s.mem (.buf j)=s.base j (s.cur j)
 els:∀n,n<(s.q j).length->s.mem (.el j (s.cur j) (ix (s.T j+n) (s.cc j)))=(((s.q j).getD n 0:Nat):Int)
 ph:gz C s j
def Th(C:dH)(s:St)(i:Nat):Prop:=
 match s.pc i with
 | .gG=>C.N≠1
 | .nV=>C.N≠1
 | .jT v t=>v<C.N/\v≠i/\t<=s.T v
 | .gN v t=>v<C.N/\v≠i/\t<=s.T v/\(t=s.T v->s.q v≠[])
 | .gp v t g=>v<C.N/\v≠i/\t<=s.T v/\g<=s.cur v/\(t=s.T v->∃x l,s.q v=x::l/\s.mem (.el v g (ix t (s.mem (.cap v g))))=(x:Nat))
 | .eZ v t g cc=>v<C.N/\v≠i/\t<=s.T v/\g<=s.cur v/\cc=s.mem (.cap v g)/\(t=s.T v->∃x l,s.q v=x::l/\s.mem (.el v g (ix t (s.mem (.cap v g))))=(x:Nat))
 | .fJ v t x=>v<C.N/\v≠i/\t<=s.T v/\(t=s.T v->∃y l,s.q v=y::l/\x=(y:Nat))
 | _=>True
structure my(s s':St)(j:Nat):Prop where
 top:s'.mem (.top j)=s.mem (.top j)
 bot:s'.mem (.bot j)=s.mem (.bot j)
 buf:s'.mem (.buf j)=s.mem (.buf j)
 cap:∀g,s'.mem (.cap j g)=s.mem (.cap j g)
 el:∀g n,s'.mem (.el j g n)=s.mem (.el j g n)
 cur:s'.cur j=s.cur j
 base:s'.base j=s.base j
 q:s'.q j=s.q j
 pop:s'.pop j=s.pop j
theorem D.same{C:dH}{s s':St}{j:Nat}(h:D C s j)(e:my s s' j)(hp:gz C s' j):D C s' j:=by
 obtain⟨h1,h2,h3,h4,h5,h6⟩:=h
 obtain⟨e1,e2,e3,e4,e5,e6,e7,e8,e9⟩:=e
 refine⟨?_,?_,?_,?_,?_,hp⟩
 ·rw[St.T,e1];exact h1
 ·intro g hg;rw[e4];rw[e6]at hg;exact h2 g hg
 ·rw[St.cc,e6,e4];exact h3
 ·rw[e3,e7,e6];exact h4
 ·intro n hn;simp only[St.T,St.cc,e1,e4,e5,e6,e8];exact h5 n (by rw[e8]at hn;exact hn)
theorem gz.same{C:dH}{s s':St}{j:Nat}(h:gz C s j)(e:my s s' j)(hp:s'.pc j=s.pc j):gz C s' j:=by
 obtain⟨e1,e2,e3,e4,e5,e6,e7,e8,e9⟩:=e
 unfold gz at h⊢
 simp only[hp,nq,mw,j7,St.T,St.B,St.L,St.cc,e1,e2,e3,e4,e5,e6,e7,e8,e9]at h⊢
 exact h
theorem D.Af{C:dH}{s s':St}{j:Nat}(h:D C s j)(e:my s s' j)(hp:s'.pc j=s.pc j):D C s' j:=h.same e (h.ph.same e hp)
structure Calm(s s':St)(v:Nat):Prop where
 top:s.T v<=s'.T v
 cur:s.cur v<=s'.cur v
 cap:∀g,g<=s.cur v->s'.mem (.cap v g)=s.mem (.cap v g)
 q:s.T v=s'.T v->∀x l,s.q v=x::l->(∃l',s'.q v=x::l')/\∀g,g<=s.cur v->s.mem (.el v g (ix (s.T v) (s.mem (.cap v g))))=(x:Nat)->s'.mem (.el v g (ix (s.T v) (s.mem (.cap v g))))=(x:Nat)
theorem Th.calm{C:dH}{s s':St}{i:Nat}(h:Th C s i)(e:∀v,v≠i->Calm s s' v)(hp:s'.pc i=s.pc i):Th C s' i:=by
 unfold Th at h⊢
 rw[hp]
 split
 ·rename_i hh;rw[hh]at h;exact h
 ·rename_i hh;rw[hh]at h;exact h
 ·rename_i v t hh;rw[hh]at h;simp only at h
  exact⟨h.1,h.2.1,Int.le_trans h.2.2 (e v h.2.1).top⟩
 ·rename_i v t hh;rw[hh]at h;simp only at h
  have E:=e v h.2.1
  refine⟨h.1,h.2.1,Int.le_trans h.2.2.1 E.top,λht => ?_⟩
  have e1:t=s.T v:=Int.le_antisymm h.2.2.1 (ht▸ E.top)
  obtain⟨x,l,hq⟩:=List.exists_cons_of_ne_nil (h.2.2.2 e1)
  obtain⟨⟨l',h'⟩,_⟩:=E.q (e1.symm.trans ht) x l hq
  rw[h'];exact List.cons_ne_nil _ _
 ·rename_i v t g hh;rw[hh]at h;simp only at h
  have E:=e v h.2.1
  obtain⟨h1,h2,h3,h4,h5⟩:=h
  refine⟨h1,h2,Int.le_trans h3 E.top,agq h4 E.cur,λht => ?_⟩
  have e1:t=s.T v:=Int.le_antisymm h3 (ht▸ E.top)
  obtain⟨x,l,hq,hx⟩:=h5 e1
  obtain⟨⟨l',h'⟩,h''⟩:=E.q (e1.symm.trans ht) x l hq
  refine⟨x,l',h',?_⟩
  rw[E.cap g h4,e1];exact h'' g h4 (by rw[<-e1];exact hx)
 ·rename_i v t g cc hh;rw[hh]at h;simp only at h
  have E:=e v h.2.1
  obtain⟨h1,h2,h3,h4,h0,h5⟩:=h
  refine⟨h1,h2,Int.le_trans h3 E.top,agq h4 E.cur,by rw[E.cap g h4];exact h0,λht => ?_⟩
  have e1:t=s.T v:=Int.le_antisymm h3 (ht▸ E.top)
  obtain⟨x,l,hq,hx⟩:=h5 e1
  obtain⟨⟨l',h'⟩,h''⟩:=E.q (e1.symm.trans ht) x l hq
  refine⟨x,l',h',?_⟩
  rw[E.cap g h4,e1];exact h'' g h4 (by rw[<-e1];exact hx)
 ·rename_i v t x hh;rw[hh]at h;simp only at h
  have E:=e v h.2.1
  obtain⟨h1,h2,h3,h5⟩:=h
  refine⟨h1,h2,Int.le_trans h3 E.top,λht => ?_⟩
  have e1:t=s.T v:=Int.le_antisymm h3 (ht▸ E.top)
  obtain⟨y,l,hq,hx⟩:=h5 e1
  obtain⟨⟨l',h'⟩,h''⟩:=E.q (e1.symm.trans ht) y l hq
  exact⟨y,l',h',hx⟩
 ·trivial
theorem my.calm{s s':St}{v:Nat}(e:my s s' v):Calm s s' v:=by
 obtain⟨e1,e2,e3,e4,e5,e6,e7,e8,e9⟩:=e
 exact⟨by simp only[St.T,e1];exact agn _,by rw[e6];exact aea _,λg _=>e4 g,λ_ x l hq=>⟨⟨l,e8▸ hq⟩,λg _ h=>by rw[e5];exact h⟩⟩
def DT(C:dH)(s:St):Prop:=(∀j,j<C.N->D C s j)/\∀i,i<C.N->Th C s i
theorem DT.own{C:dH}{s s':St}{i:Nat}(h:DT C s)(hs:∀j,j≠i->my s s' j)(hp:∀j,j≠i->s'.pc j=s.pc j)(hd:D C s' i)(hc:Calm s s' i)(ht:Th C s' i):DT C s':=by
 refine⟨λj hj => ?_,λk hk => ?_⟩
 ·by_cases e:j=i
  ·subst e;exact hd
  ·exact(h.1 j hj).Af (hs j e) (hp j e)
 ·by_cases e:k=i
  ·subst e;exact ht
  ·exact(h.2 k hk).calm (λv hv=>by
    by_cases e':v=i
    ·subst e';exact hc
    ·exact(hs v e').calm) (hp k e)
def jr.own:jr->Option Nat
 | .top i | .bot i | .buf i | .cap i _ | .el i _ _=>some i
 | _=>none
theorem my.of{s s':St}{j:Nat}(hm:∀a,a.own=some j->s'.mem a=s.mem a)(h1:s'.cur j=s.cur j)(h2:s'.base j=s.base j)(h3:s'.q j=s.q j)(h4:s'.pop j=s.pop j):my s s' j:=
 ⟨hm _ rfl,hm _ rfl,hm _ rfl,λ_=>hm _ rfl,λ_ _=>hm _ rfl,h1,h2,h3,h4⟩
def Idle:Pc->Prop
 | .lO .. | .iG .. | .iH .. | .grow .. | .fH .. | .dZ .. | .ew .. | .fI .. | .ef .. | .gS ..
 | .RU .. | .gM .. | .nU .. | .gl .. | .jS .. | .ij .. | .jA .. | .iL .. => False
 | _=>True
theorem gz.idle{C:dH}{s:St}{j:Nat}(hi:Idle (s.pc j)):gz C s j↔s.B j=s.T j+s.L j/\s.L j<=s.cc j:=by
 unfold gz
 split<;>rename_i hh<;>first | (rw[hh]at hi;exact hi.elim) | exact Iff.rfl
theorem D.idle{C:dH}{s s':St}{j:Nat}(h:D C s j)(e:my s s' j)(hi:Idle (s.pc j))(hi':Idle (s'.pc j)):D C s' j:=by
 refine h.same e ((gz.idle hi').2 ?_)
 have:=(gz.idle hi).1 h.ph
 obtain⟨e1,e2,e3,e4,e5,e6,e7,e8,e9⟩:=e
 simpa only [St.T,St.B,St.L,St.cc,e1,e2,e4,e6,e8]using this
theorem DT.cg{C:dH}{s s':St}{i:Nat}(h:DT C s)(hi:i<C.N)(hm:∀a,a.own≠none->s'.mem a=s.mem a)(h1:s'.cur=s.cur)(h2:s'.base=s.base)(h3:s'.q=s.q)(h4:s'.pop=s.pop)
 (hp:∀j,j≠i->s'.pc j=s.pc j) (D9:Idle (s.pc i)) (BG:Idle (s'.pc i)) (ht:Th C s' i):DT C s':=by
 have e:∀j,my s s' j:=λj=>my.of (λa ha=>hm a (by rw[ha];exact Option.some_ne_none _)) (by rw[h1]) (by rw[h2]) (by rw[h3]) (by rw[h4])
 exact h.own (i:=i) (λj _=>e j) hp ((h.1 i hi).idle (e i) D9 BG) (e i).calm ht
theorem Th.plain{C:dH}{s:St}{i:Nat}(h:match s.pc i with | .gG | .nV | .jT .. | .gN .. | .gp .. | .eZ .. | .fJ .. => False | _=>True):Th C s i:=by
 unfold Th
 split<;>rename_i hh<;>first | (rw[hh]at h;exact h.elim) | trivial
theorem DT.mine{C:dH}{s s':St}{i:Nat}(h:DT C s)(hi:i<C.N)(hm:∀a,a.own≠some i->s'.mem a=s.mem a)(h1:∀j,j≠i->s'.cur j=s.cur j)(h2:∀j,j≠i->s'.base j=s.base j)(h3:∀j,j≠i->s'.q j=s.q j)(h4:∀j,j≠i->s'.pop j=s.pop j)
 (hp:∀j,j≠i->s'.pc j=s.pc j) (hd:D C s' i) (hc:Calm s s' i) (ht:Th C s' i):DT C s':=
 h.own (i:=i) (λj hj=>my.of (λa ha=>hm a (by rw[ha];intro e;exact hj (Option.some.inj e))) (h1 j hj) (h2 j hj) (h3 j hj) (h4 j hj)) hp hd hc ht
section
variable {C:dH}{s:St}{i:Nat}
theorem DT.reads{s':St}(h:DT C s)(hi:i<C.N)(hm:s'.mem=s.mem)(h1:s'.cur=s.cur)(h2:s'.base=s.base)(h3:s'.q=s.q)(h4:s'.pop=s.pop)
 (hp:∀j,j≠i->s'.pc j=s.pc j) (hd:gz C s' i) (ht:Th C s' i):DT C s':=by
 have e:∀j,my s s' j:=λj=>my.of (λa _=>by rw[hm]) (by rw[h1]) (by rw[h2]) (by rw[h3]) (by rw[h4])
 exact h.own (i:=i) (λj _=>e j) hp ((h.1 i hi).same (e i) hd) (e i).calm ht
theorem P4{s:St}{i j:Nat}{p:Pc}(h:j≠i):(s.to i p).pc j=s.pc j:=aI h
theorem de{s:St}{i:Nat}{p:Pc}:(s.to i p).pc i=p:=aL _ _ _
theorem eJ{s:St}{a x:jr}{v:Int}(h:x≠a):(s.wr a v).mem x=s.mem x:=aI h
end
section
variable {C:dH}{s:St}{i:Nat}
theorem pX{cc:Int}(h:cc<C.most)(h1:1<=cc):cc<cW C cc/\cW C cc<=C.most:=by unfold cW;split<;>omega
theorem vr(h:DT C s)(hi:i<C.N){c b t cc d}(hp:s.pc i= .grow c b t cc):DT C (step C s i d).s:=by
 have H:=h.1 i hi
 have P:=H.ph;unfold gz at P;rw[hp]at P;simp only at P
 unfold step;rw[hp];simp only
 have e1:∀g n,g<=s.cur i->(if True/\g=s.cur i+1 then(0:Int)else n)=n:=λg n hg=>aj (by omega)
 refine h.mine hi ?_ (λj hj=>rfl) (λj hj=>aI hj) (λj hj=>rfl) (λj hj=>rfl) (λj hj=>P4 hj) ⟨H.t0,?_,?_,?_,?_,?_⟩ ⟨agn _,aea _,?_,?_⟩ (Th.plain (by rw[de];trivial))
 ·intro a ha;simp only[St.to];cases a<;>simp only[jr.own,ne_eq,Option.some.injEq]at ha⊢<;> simp[ha]
 ·intro g hg;simp only[St.to]at hg⊢;rw[e1 g _ hg];exact H.lB g hg
 ·simp only[St.cc,St.to];rw[e1 _ _ (aea _)];exact H.mS
 ·simp only[St.to,aL];rw[aI (by omega)];exact H.nW
 ·intro n hn;simp only[St.to,St.T,St.cc]at hn⊢;rw[e1 _ _ (aea _),e1 _ _ (aea _)];exact H.els n hn
 ·unfold gz;rw[de];simp only[nq,St.B,St.T,St.L,St.cc,St.to]at P⊢;rw[e1 _ _ (aea _)];exact P
 ·intro g hg;simp only[St.to];exact e1 g _ hg
 ·intro _ x l hq;refine⟨⟨l,hq⟩,λg hg hx => ?_⟩;simp only[St.to];rw[e1 g _ hg];exact hx
theorem qw(h:DT C s)(hi:i<C.N){c b t cc d}(hp:s.pc i= .fH c b t cc):DT C (step C s i d).s:=by
 have H:=h.1 i hi
 have P:=H.ph;unfold gz at P;rw[hp]at P;simp only at P
 unfold step;rw[hp];simp only
 have e1:∀g,g<=s.cur i->jr.cap i g≠.cap i (s.cur i+1):=λg hg e=>by injection e;omega
 refine h.mine hi (λa ha => ?_) (λj hj=>rfl) (λj hj=>rfl) (λj hj=>rfl) (λj hj=>rfl) (λj hj=>P4 hj) ⟨?_,?_,?_,?_,?_,?_⟩ ⟨?_,aea _,?_,?_⟩ (Th.plain (by rw[de];trivial))
 ·exact eJ (λe=>ha (by rw[e];rfl))
 ·simp only[St.T,St.cc,St.to,St.wr,St.put,St.gy];rw[aI nF_];exact H.t0
 ·intro g hg;simp only[St.T,St.cc,St.to,St.wr,St.put,St.gy];rw[aI (e1 g hg)];exact H.lB g hg
 ·simp only[St.T,St.cc,St.to,St.wr,St.put,St.gy];rw[aI (e1 _ (aea _))];exact H.mS
 ·simp only[St.T,St.cc,St.to,St.wr,St.put,St.gy];rw[aI nF_];exact H.nW
 ·intro n hn;simp only[St.T,St.cc,St.to,St.wr,St.put,St.gy]at hn⊢;rw[aI nF_,aI nF_,aI (e1 _ (aea _))];exact H.els n hn
 ·unfold gz;rw[de];simp only[nq,mw,St.B,St.T,St.L,St.cc,St.to,St.wr,aL]at P⊢
  rw[aI (e1 _ (aea _)),aI nF_,aI nF_]
  have:=H.lB _ (aea (s.cur i))
  refine⟨P,⟨by rw[P.2.2.2.2.1],λm h1 h2=>by omega⟩,agn _,by omega⟩
 ·simp only[St.T,St.cc,St.to,St.wr,St.put,St.gy];rw[aI nF_];exact agn _
 ·intro g hg;exact eJ (e1 g hg)
 ·intro _ x l hq;refine⟨⟨l,hq⟩,λg hg hx => ?_⟩;simp only[St.T,St.cc,St.to,St.wr,St.put,St.gy];rw[aI nF_];exact hx
theorem pJ(h:DT C s)(hi:i<C.N){c b t cc n d}(hp:s.pc i= .dZ c b t cc n):DT C (step C s i d).s:=by
 have H:=h.1 i hi
 have P:=H.ph;unfold gz at P;rw[hp]at P;simp only at P
 unfold step;rw[hp];simp only
 refine h.reads hi rfl rfl rfl rfl rfl (λj hj=>P4 hj) ?_ (Th.plain (by rw[de];trivial))
 unfold gz;rw[de];simp only
 exact⟨P.1,P.2.1,P.2.2.1,P.2.2.2,by rw[P.1.2.2.2.2.1];rfl⟩
theorem oW(h:DT C s)(hi:i<C.N){c b t cc n x d}(hp:s.pc i= .ew c b t cc n x):DT C (step C s i d).s:=by
 have H:=h.1 i hi
 have P:=H.ph;unfold gz at P;rw[hp]at P;simp only at P
 obtain⟨⟨g1,g2,g3,g4,g5,g6,g7⟩,⟨k1,k2⟩,p3,p4,p5⟩:=P
 have c1:=H.lB _ (aea (s.cur i))
 obtain⟨b1,b2⟩:=pX (C:=C) g7 (by rw[g5];exact c1)
 unfold step;rw[hp];simp only
 have e1:∀g k,g<=s.cur i->jr.el i g k≠.el i (s.cur i+1) (ix n (cW C cc)):=λg k hg e=>by injection e;omega
 refine h.mine hi (λa ha=>eJ (λe=>ha (by rw[e];rfl))) (λj hj=>rfl) (λj hj=>rfl) (λj hj=>rfl) (λj hj=>rfl) (λj hj=>P4 hj) ⟨?_,?_,?_,?_,?_,?_⟩ ⟨?_,aea _,?_,?_⟩ (Th.plain (by rw[de];by_cases hb:n+1<b<;>simp[hb]))
 ·simp only[St.T,St.cc,St.to,St.wr,St.put,St.gy];rw[aI nF_];exact H.t0
 ·intro g hg;simp only[St.T,St.cc,St.to,St.wr,St.put,St.gy];rw[aI nF_];exact H.lB g hg
 ·simp only[St.T,St.cc,St.to,St.wr,St.put,St.gy];rw[aI nF_];exact H.mS
 ·simp only[St.T,St.cc,St.to,St.wr,St.put,St.gy];rw[aI nF_];exact H.nW
 ·intro n hn;simp only[St.T,St.cc,St.to,St.wr,St.put,St.gy]at hn⊢;rw[aI (e1 _ _ (aea _)),aI nF_,aI nF_];exact H.els n hn
 ·have hG:nq C ((s.wr (.el i (s.cur i+1) (ix n (cW C cc))) x).to i (if n+1<b then .dZ c b t cc (n+1)else .fI c b t cc)) i b t cc:=by
   simp only[nq,St.B,St.T,St.L,St.cc,St.to,St.wr]at *
   rw[aI nF_,aI nF_,aI nF_]
   exact⟨g1,g2,g3,g4,g5,g6,g7⟩
  have hC:mw C ((s.wr (.el i (s.cur i+1) (ix n (cW C cc))) x).to i (if n+1<b then .dZ c b t cc (n+1)else .fI c b t cc)) i (n+1):=by
   simp only[mw,St.T,St.cc,St.to,St.wr]at *
   rw[aI nF_,aI nF_,aI nF_]
   refine⟨k1,λm h1 h2 => ?_⟩
   rw[aI (e1 _ _ (aea _)),<-g5]
   by_cases hm:m=n
   ·subst hm;rw[aL,p5,<-g5]
   ·rw[aI (λe=>xe (m:=m) (n:=n) (c:=cW C cc) (by omega) (by omega) (by omega) hm (by injection e)),g5]
    exact k2 m h1 (by omega)
  unfold gz;rw[de]
  by_cases hb:n+1<b
  ·simp only[au hb]at hG hC⊢;exact⟨hG,hC,by omega,hb⟩
  ·simp only[aj hb]at hG hC⊢;exact⟨hG,by rw[show b=n+1 by omega];rw[show b=n+1 by omega]at hC;exact hC⟩
 ·simp only[St.T,St.cc,St.to,St.wr,St.put,St.gy];rw[aI nF_];exact agn _
 ·intro g hg;simp only[St.to,St.wr,St.put,St.gy];rw[aI nF_]
 ·intro _ x l hq;refine⟨⟨l,hq⟩,λg hg hx => ?_⟩;simp only[St.T,St.cc,St.to,St.wr,St.put,St.gy];rw[aI (e1 _ _ hg)];exact hx
theorem qx(h:DT C s)(hi:i<C.N){c b t cc d}(hp:s.pc i= .fI c b t cc):DT C (step C s i d).s:=by
 have H:=h.1 i hi
 have P:=H.ph;unfold gz at P;rw[hp]at P;simp only at P
 obtain⟨⟨g1,g2,g3,g4,g5,g6,g7⟩,⟨k1,k2⟩⟩:=P
 have c1:=H.lB _ (aea (s.cur i))
 obtain⟨b1,b2⟩:=pX (C:=C) g7 (by rw[g5];exact c1)
 unfold step;rw[hp];simp only
 rw[g5]at b1 b2
 simp only[St.B,St.T,St.L,St.cc]at *
 refine h.mine hi (λa ha=>eJ (λe=>ha (by rw[e];rfl))) (λj hj=>aI hj) (λj hj=>rfl) (λj hj=>rfl) (λj hj=>rfl) (λj hj=>P4 hj) ⟨?_,?_,?_,?_,?_,?_⟩ ⟨?_,?_,?_,?_⟩ (Th.plain (by rw[de];trivial))
 ·simp only[St.T,St.cc,St.to,St.wr,St.put,St.gy];rw[aI nF_];exact H.t0
 ·intro g hg;simp only[St.T,St.cc,St.to,St.wr,St.put,St.gy];rw[aI nF_];simp only[St.to,aL]at hg
  by_cases e:g=s.cur i+1
  ·rw[e,k1];omega
  ·exact H.lB g (by omega)
 ·simp only[St.cc,St.to,aL];rw[eJ nF_,k1];exact b2
 ·simp only[St.to,aL];simp only[St.T,St.cc,St.to,St.wr,St.put,St.gy];exact aL _ _ _
 ·intro n hn;simp only[St.T,St.cc,St.to,aL]at hn⊢;rw[eJ nF_,eJ nF_,eJ nF_,k1,k2 _ (by omega) (by simp only[St.L,St.wr]at *;omega)];exact H.els n hn
 ·unfold gz;rw[de];simp only[St.B,St.T,St.L,St.cc,St.to,St.wr,aL]at *
  rw[aI nF_,aI nF_,aI nF_,k1,g5]
  exact⟨g1,g2,by omega,rfl⟩
 ·simp only[St.T,St.cc,St.to,St.wr,St.put,St.gy];rw[aI nF_];exact agn _
 ·simp only[St.to,aL];omega
 ·intro g hg;simp only[St.to,St.wr,St.put,St.gy];rw[aI nF_]
 ·intro _ x l hq;refine⟨⟨l,hq⟩,λg hg hx => ?_⟩;simp only[St.T,St.cc,St.to,St.wr,St.put,St.gy];rw[aI nF_];exact hx
theorem pK(h:DT C s)(hi:i<C.N){c b cc d}(hp:s.pc i= .ef c b cc):DT C (step C s i d).s:=by
 have H:=h.1 i hi
 have P:=H.ph;unfold gz at P;rw[hp]at P;simp only at P
 obtain⟨g1,g2,g3,g4⟩:=P
 have c1:=H.lB _ (aea (s.cur i))
 have E:=H.els
 have t0:=H.t0
 unfold step;rw[hp];simp only
 simp only[St.B,St.T,St.L,St.cc]at *
 refine h.mine hi (λa ha=>eJ (λe=>ha (by rw[e];rfl))) (λj hj=>rfl) (λj hj=>rfl) (λj hj=>rfl) (λj hj=>rfl) (λj hj=>P4 hj) ⟨?_,?_,?_,?_,?_,?_⟩ ⟨?_,aea _,?_,?_⟩ (Th.plain (by rw[de];trivial))
 ·simp only[St.T,St.cc,St.to,St.wr,St.put,St.gy];rw[aI nF_];exact H.t0
 ·intro g hg;simp only[St.T,St.cc,St.to,St.wr,St.put,St.gy];rw[aI nF_];exact H.lB g hg
 ·simp only[St.T,St.cc,St.to,St.wr,St.put,St.gy];rw[aI nF_];exact H.mS
 ·simp only[St.T,St.cc,St.to,St.wr,St.put,St.gy];rw[aI nF_];exact H.nW
 ·intro n hn;simp only[St.T,St.cc,St.to,St.wr,St.put,St.gy]at hn⊢
  rw[aI (a:=jr.el i (s.cur i) (ix b cc)) (x:=jr.top i) nF_,aI (x:=jr.cap i (s.cur i)) nF_,g4]
  have hn':n<(s.q i).length:=hn
  rw[aI (λe=>xe (m:=s.mem (.top i)+n) (n:=b) (c:=s.mem (.cap i (s.cur i))) (by omega) (by omega) (by omega) (by omega) (by injection e))]
  exact E n hn
 ·unfold gz;rw[de];simp only[St.B,St.T,St.L,St.cc,St.to,St.wr,aL]at *
  rw[aI nF_,aI nF_,aI nF_,g4,aL]
  exact⟨g1,g2,by omega,rfl⟩
 ·simp only[St.T,St.cc,St.to,St.wr,St.put,St.gy];rw[aI nF_];exact agn _
 ·intro g hg;simp only[St.to,St.wr,St.put,St.gy];rw[aI nF_]
 ·intro ht x l hq;refine⟨⟨l,hq⟩,λg hg hx => ?_⟩;simp only[St.T,St.cc,St.to,St.wr,St.put,St.gy]
  have hl:1<=(s.q i).length:=by rw[hq];simp
  by_cases eg:g=s.cur i
  ·subst eg
   rw[aI (λe=>xe (m:=s.mem (.top i)) (n:=b) (c:=s.mem (.cap i (s.cur i))) (by omega) (by omega) (by omega) (by omega) (by rw[g4]at e;injection e))];exact hx
  ·rw[aI (λe=>eg (by injection e))];exact hx
theorem qy(h:DT C s)(hi:i<C.N){c b d}(hp:s.pc i= .gS c b):DT C (step C s i d).s:=by
 have H:=h.1 i hi
 have P:=H.ph;unfold gz at P;rw[hp]at P;simp only at P
 obtain⟨g1,g2,g3,g4⟩:=P
 have E:=H.els
 have t0:=H.t0
 unfold step;rw[hp];simp only
 simp only[St.B,St.T,St.L,St.cc]at *
 refine h.mine hi (λa ha=>eJ (λe=>ha (by rw[e];rfl))) (λj hj=>rfl) (λj hj=>rfl) (λj hj=>aI hj) (λj hj=>rfl) (λj hj=>P4 hj) ⟨?_,?_,?_,?_,?_,?_⟩ ⟨?_,aea _,?_,?_⟩ (Th.plain (by rw[de];trivial))
 ·simp only[St.T,St.cc,St.to,St.wr,St.put,St.gy];rw[aI nF_];exact H.t0
 ·intro g hg;simp only[St.T,St.cc,St.to,St.wr,St.put,St.gy];rw[aI nF_];exact H.lB g hg
 ·simp only[St.T,St.cc,St.to,St.wr,St.put,St.gy];rw[aI nF_];exact H.mS
 ·simp only[St.T,St.cc,St.to,St.wr,St.put,St.gy];rw[aI nF_];exact H.nW
 ·intro n hn;simp only[St.T,St.cc,St.to,St.put,St.gy,St.wr,aL]at hn⊢
  rw[aI nF_,aI nF_,aI nF_]
  rw[ad9,agF]at hn
  by_cases e:n<(s.q i).length
  ·rw[List.getD_eq_getElem?_getD,List.getElem?_append_left e,<-List.getD_eq_getElem?_getD];exact E n e
  ·have:n=(s.q i).length:=by omega
   subst this;rw[List.getD_eq_getElem?_getD,List.getElem?_append_right (aea _)];simp only[Nat.sub_self,List.getElem?_cons_zero,afk];rw[g2];exact g4
 ·refine(gz.idle (by rw[de];trivial)).2 ?_
  simp only[St.B,St.T,St.L,St.cc,St.to,St.put,St.gy,St.wr,aL,ad9,agF]at *
  rw[aI nF_,aI nF_]
  constructor<;>omega
 ·simp only[St.T,St.cc,St.to,St.wr,St.put,St.gy];rw[aI nF_];exact agn _
 ·intro g hg;simp only[St.to,St.wr,St.put,St.gy];rw[aI nF_]
 ·intro ht x l hq;simp only[St.to,St.put,St.gy,aL];refine⟨⟨l++[c],by rw[hq];rfl⟩,λg hg hx => ?_⟩;simp only[St.T,St.cc,St.to,St.wr,St.put,St.gy]
  rw[aI nF_];exact hx
end
section
variable {C:dH}{s:St}{i:Nat}
theorem DT.qz{s':St}(h:DT C s)(hi:i<C.N){v:Int}(hm:s'.mem=bq s.mem (.bot i) v)(h1:s'.cur=s.cur)(h2:s'.base=s.base)(h3:s'.q=s.q)(h4:∀j,j≠i->s'.pop j=s.pop j)
 (hp:∀j,j≠i->s'.pc j=s.pc j) (hd:gz C s' i) (ht:Th C s' i):DT C s':=by
 have H:=h.1 i hi
 have e:∀a,a≠.bot i->s'.mem a=s.mem a:=λa ha=>by rw[hm];exact aI ha
 refine h.mine hi (λa ha=>e a (λe=>ha (by rw[e];rfl))) (λj _=>by rw[h1]) (λj _=>by rw[h2]) (λj _=>by rw[h3]) h4 hp ⟨?_,?_,?_,?_,?_,hd⟩ ⟨?_,by rw[h1];exact aea _,?_,?_⟩ ht
 ·simp only[St.T];rw[e _ nF_];exact H.t0
 ·intro g hg;rw[e _ nF_];rw[h1]at hg;exact H.lB g hg
 ·simp only[St.cc,h1];rw[e _ nF_];exact H.mS
 ·rw[e _ nF_,h1,h2];exact H.nW
 ·intro n hn;simp only[St.T,St.cc,h1,h3]at hn⊢;rw[e _ nF_,e _ nF_,e _ nF_];exact H.els n hn
 ·simp only[St.T];rw[e _ nF_];exact agn _
 ·intro g hg;rw[e _ nF_]
 ·intro _ x l hq;refine⟨⟨l,by rw[h3];exact hq⟩,λg hg hx => ?_⟩;rw[e _ nF_];exact hx
theorem s7:∀(l:List Nat) (n:Nat),n+1=l.length->l.getD n 0=l.getLastD 0
 | [],n,h=>by simp at h
 | a::l,n,h=>by
  simp only[af2]at h
  have:n=l.length:=by omega
  subst this
  rw[List.getLastD_cons,List.getD_eq_getElem?_getD,List.getElem?_eq_getElem (by simp),afk,List.getLastD_eq_getLast?,List.getLast?_eq_getElem?]
  cases l with
  | nil=>rfl
  | cons b l=>simp
theorem pL(l:List Nat)(n:Nat)(h:n+1<l.length):l.dropLast.getD n 0=l.getD n 0:=by
 simp only[List.getD_eq_getElem?_getD];rw[List.getElem?_dropLast,iQ_]
theorem vt(h:DT C s)(hi:i<C.N){b d}(hp:s.pc i= .nU b):DT C (step C s i d).s:=by
 have H:=h.1 i hi
 have P:=H.ph;unfold gz at P;rw[hp]at P;simp only at P
 obtain⟨g1,g2,g3⟩:=P
 have E:=H.els
 have t0:=H.t0
 unfold step;rw[hp];simp only
 simp only[St.B,St.T,St.L,St.cc]at *
 split
 ·rename_i hb
  have hl:((s.q i).length-1)+1=(s.q i).length:=by omega
  have Jr:(s.q i).dropLast.length=(s.q i).length-1:=by simp
  refine h.mine hi (λa ha=>rfl) (λj hj=>rfl) (λj hj=>rfl) (λj hj=>aI hj) (λj hj=>aI hj) (λj hj=>P4 hj) ⟨H.t0,H.lB,H.mS,H.nW,?_,?_⟩ ⟨agn _,aea _,λ_ _=>rfl,?_⟩ (Th.plain (by simp[St.eI,St.put,St.gy,St.to]))
  ·intro n hn;simp only[St.T,St.cc,St.to,St.put,St.gy,St.eI,aL]at hn⊢;rw[Jr]at hn;rw[pL _ _ (by omega)];exact E n (by omega)
  ·unfold gz;simp only[St.eI,St.put,St.gy,St.to,aL,j7,St.B,St.T,St.L,St.cc,Jr]
   refine⟨g1,by omega,by omega,λ_=>⟨by omega,by omega,_,rfl,?_⟩,λe=>by omega⟩
   rw[<-s7 _ _ hl,<-E _ (by omega)]
   rw[show s.mem (.top i)+(((s.q i).length-1:Nat):Int)=b by omega]
  ·intro _ x l hq;simp only[St.eI,St.put,St.gy,St.to,aL]
   refine⟨?_,λg hg hx=>hx⟩
   rw[hq]at hl g2⊢
   cases l with
   | nil=>simp at g2;omega
   | cons y l=>exact⟨_,rfl⟩
 ·split
  ·rename_i hn ht
   refine h.reads hi rfl rfl rfl rfl rfl (λj hj=>P4 hj) ?_ (Th.plain (by rw[de];trivial))
   unfold gz;simp only[St.to,aL,j7,St.B,St.T,St.L,St.cc]
   exact⟨g1,by omega,by omega,λe=>by omega,λ_=>⟨g2,by omega,g3⟩⟩
  ·rename_i hn ht
   refine h.reads hi rfl rfl rfl rfl rfl (λj hj=>P4 hj) ?_ (Th.plain (by rw[de];trivial))
   unfold gz;simp only[St.to,aL,St.B,St.T,St.L,St.cc]
   exact⟨trivial,by omega,by omega⟩
theorem pM(h:DT C s)(hi:i<C.N){b d}(hp:s.pc i= .gM b):DT C (step C s i d).s:=by
 have H:=h.1 i hi
 have P:=H.ph;unfold gz at P;rw[hp]at P;simp only at P
 obtain⟨g1,g2,g3⟩:=P
 unfold step;rw[hp];simp only
 refine h.qz hi rfl rfl rfl rfl (λ_ _=>rfl) (λj hj=>P4 hj) ?_ (Th.plain (by rw[de];trivial))
 unfold gz;simp only[St.to,St.wr,aL,St.B,St.T,St.L,St.cc]at *
 rw[aI nF_,aI nF_]
 exact⟨trivial,g2,g3⟩
theorem uE{s:St}:(pI s C i).pc i=if C.N=1 then .flag else .gG:=aL _ _ _
theorem nX{s:St}:Idle ((pI s C i).pc i):=by rw[uE];split<;>trivial
theorem Yc{s:St}:Th C (pI s C i) i:=by
 unfold Th;rw[uE]
 by_cases h:C.N=1
 ·rw[au h];trivial
 ·rw[aj h];exact h
theorem Xo(h:DT C s)(hi:i<C.N){t d}(hp:s.pc i= .gl t):DT C (step C s i d).s:=by
 have H:=h.1 i hi
 have P:=H.ph;unfold gz at P;rw[hp]at P;simp only at P
 obtain⟨g1,g2,g3⟩:=P
 have c1:=H.lB _ (aea (s.cur i))
 unfold step;rw[hp];simp only
 refine h.qz hi rfl rfl rfl rfl (λ_ _=>rfl) (λj hj=>aI hj) ((gz.idle nX).2 ?_) Yc
 simp only[pI,St.to,St.wr,St.iM,aL,St.B,St.T,St.L,St.cc]at *
 rw[aI nF_,aI nF_]
 exact⟨by omega,by omega⟩
theorem qB(h:DT C s)(hi:i<C.N){b t cc d}(hp:s.pc i= .ij b t cc):DT C (step C s i d).s:=by
 have H:=h.1 i hi
 have P:=H.ph;unfold gz at P;rw[hp]at P;simp only[j7]at P
 obtain⟨⟨g1,g2,g3,g4,g5⟩,g6⟩:=P
 unfold step;rw[hp];simp only
 have E:=H.els
 split
 ·rename_i hb
  obtain⟨k1,k2,k3⟩:=g4 hb
  refine h.mine hi (λa ha=>rfl) (λj hj=>rfl) (λj hj=>rfl) (λj hj=>rfl) (λj hj=>aI hj) (λj hj=>aI hj) ⟨H.t0,H.lB,H.mS,H.nW,E,?_⟩ ⟨agn _,aea _,λ_ _=>rfl,?_⟩ (Th.plain (by simp[got,St.eI,St.put,St.holds,St.to]))
  ·refine(gz.idle (by simp[got,St.eI,St.put,St.holds,St.to,Idle])).2 ?_
   simp only[got,St.eI,St.put,St.holds,St.to,St.B,St.T,St.L,St.cc]at *
   exact⟨by omega,by omega⟩
  ·intro _ x l hq;exact⟨⟨l,hq⟩,λg hg hx=>hx⟩
 ·rename_i hb
  have e:t=b:=by omega
  obtain⟨k1,k2,k3⟩:=g5 e
  refine h.reads hi rfl rfl rfl rfl rfl (λj hj=>P4 hj) ?_ (Th.plain (by rw[de];trivial))
  unfold gz;simp only[St.to,aL,St.B,St.T,St.L,St.cc]at *
  refine⟨g1,e,k1,k2,λht => ?_,k3⟩
  have hl:(s.q i).length=1:=by omega
  obtain⟨x,hx⟩:=List.length_eq_one_iff.1 hl
  have:=E 0 (by omega)
  rw[hx]at this;simp only[List.getD_cons_zero]at this
  rw[show s.mem (.top i)+((0:Nat):Int)=b by omega,<-g6]at this
  rw[this,hx];exact⟨rfl,by omega⟩
theorem YV(h:DT C s)(hi:i<C.N){b t x d}(hp:s.pc i= .jA b t x):DT C (step C s i d).s:=by
 have H:=h.1 i hi
 have P:=H.ph;unfold gz at P;rw[hp]at P;simp only at P
 obtain⟨g1,g2,g3,g4,g5,g6⟩:=P
 have t0:=H.t0
 have c1:=H.lB _ (aea (s.cur i))
 unfold step;rw[hp];simp only
 simp only[St.B,St.T,St.L,St.cc]at *
 split
 ·rename_i ht
  obtain⟨k1,k2⟩:=g5 ht
  refine h.mine hi (λa ha=>eJ (λe=>ha (by rw[e];rfl))) (λj hj=>rfl) (λj hj=>rfl) (λj hj=>aI hj) (λj hj=>aI hj) (λj hj=>aI hj) ⟨?_,?_,?_,?_,?_,?_⟩ ⟨?_,aea _,?_,?_⟩ (Th.plain (by simp[St.eI,St.put,St.gy,St.to]))
  ·simp only[St.T,St.eI,St.put,St.gy,St.to,St.wr,aL];omega
  ·intro g hg;simp only[St.eI,St.put,St.gy,St.to,St.wr];rw[aI nF_];exact H.lB g hg
  ·simp only[St.cc,St.eI,St.put,St.gy,St.to,St.wr];rw[aI nF_];exact H.mS
  ·simp only[St.eI,St.put,St.gy,St.to,St.wr];rw[aI nF_];exact H.nW
  ·intro n hn;simp[St.eI,St.put,St.gy,St.to]at hn
  ·unfold gz;simp only[St.eI,St.put,St.gy,St.to,aL,St.B,St.T,St.L,St.cc,St.wr]
   rw[aI nF_]
   exact⟨by omega,trivial,by simp,λ_=>⟨trivial,k2⟩⟩
  ·simp only[St.T,St.eI,St.put,St.gy,St.to,St.wr,aL];omega
  ·intro g hg;simp only[St.eI,St.put,St.gy,St.to,St.wr];rw[aI nF_]
  ·intro ht' ;simp only[St.T,St.eI,St.put,St.gy,St.to,St.wr,aL]at ht';omega
 ·rename_i ht
  refine h.reads hi rfl rfl rfl rfl rfl (λj hj=>P4 hj) ?_ (Th.plain (by rw[de];trivial))
  unfold gz;simp only[St.to,aL,St.B,St.T,St.L,St.cc]at *
  exact⟨by omega,by omega,by omega,λe=>Bool.noConfusion e⟩
theorem rQ(h:DT C s)(hi:i<C.N){t x nM d}(hp:s.pc i= .iL t x nM):DT C (step C s i d).s:=by
 have H:=h.1 i hi
 have P:=H.ph;unfold gz at P;rw[hp]at P;simp only at P
 obtain⟨g1,g2,g3,g4⟩:=P
 have c1:=H.lB _ (aea (s.cur i))
 unfold step;rw[hp];simp only
 cases nM
 ·refine h.qz hi rfl rfl rfl rfl (λ_ _=>rfl) (λj hj=>aI hj) ((gz.idle nX).2 ?_) Yc
  simp only[pI,St.to,St.wr,St.iM,aL,St.B,St.T,St.L,St.cc,agD,if_false]at *
  rw[aI nF_,aI nF_]
  exact⟨by omega,by omega⟩
 ·refine h.qz hi rfl rfl rfl rfl (λj hj=>aI hj) (λj hj=>aI hj) ((gz.idle (by simp[got,St.eI,St.put,St.holds,St.to,Idle])).2 ?_) (Th.plain (by simp[got,St.eI,St.put,St.holds,St.to]))
  simp only[got,St.to,St.wr,St.iM,St.eI,St.put,St.holds,aL,St.B,St.T,St.L,St.cc,if_true]at *
  rw[aI nF_,aI nF_]
  exact⟨by omega,by omega⟩
theorem D.BH{s':St}{v:Nat}{x:Nat}{l:List Nat}(H:D C s v)(hq:s.q v=x::l)(hm:s'.mem=bq s.mem (.top v) (s.T v+1))(h1:s'.cur=s.cur)(h2:s'.base=s.base)(h3:s'.q v=l)(h4:s'.pop v=s.pop v)(hp:s'.pc v=s.pc v):D C s' v:=by
 have e:∀a,a≠.top v->s'.mem a=s.mem a:=λa ha=>by rw[hm];exact aI ha
 have et:s'.mem (.top v)=s.mem (.top v)+1:=by rw[hm];exact aL _ _ _
 have E:=H.els
 have t0:=H.t0
 have eb:=e (.bot v) nofun
 have ec:=λg=>e (.cap v g) nofun
 have ee:=λg n=>e (.el v g n) nofun
 have hl:(s.q v).length=l.length+1:=by rw[hq];rfl
 have P:=H.ph
 refine⟨?_,?_,?_,?_,?_,?_⟩
 ·simp only[St.T]at *;rw[et];omega
 ·intro g hg;rw[ec];rw[h1]at hg;exact H.lB g hg
 ·simp only[St.cc,h1];rw[ec];exact H.mS
 ·rw[e _ nF_,h1,h2];exact H.nW
 ·intro n hn;rw[h3]at hn;simp only[St.T,St.cc,h1,h3]at *;rw[ee,ec,et]
  have:=E (n+1) (by omega)
  rw[hq]at this;simp only[List.getD_cons_succ]at this
  rw[<-this,show s.mem (.top v)+1+(n:Int)=s.mem (.top v)+((n+1:Nat):Int) by omega]
 ·unfold gz at P⊢;rw[hp]
  simp only[nq,mw,j7,St.B,St.T,St.L,St.cc,h1,h3,h4,et,eb,ec,ee]at P⊢
  rw[hl]at P
  split<;>rename_i hh<;>simp only[hh]at P<;>try omega
  ·refine⟨by omega,⟨P.2.1.1,λm a b=>P.2.1.2 m (by omega) b⟩,by omega⟩
  ·refine⟨by omega,⟨P.2.1.1,λm a b=>P.2.1.2 m (by omega) b⟩,P.2.2.1,P.2.2.2.1,P.2.2.2.2⟩
  ·refine⟨by omega,⟨P.2.1,λm a b=>P.2.2 m (by omega) b⟩⟩
  ·refine⟨P.1,P.2.1,P.2.2.1,λhb => ?_,λhb => ?_⟩
   ·obtain⟨a1,a2,a3⟩:=P.2.2.2.1 hb;exact⟨by omega,by omega,a3⟩
   ·obtain⟨a1,a2,a3⟩:=P.2.2.2.2 hb;exact⟨by omega,by omega,by omega⟩
  ·refine⟨⟨P.1.1,P.1.2.1,P.1.2.2.1,λhb => ?_,λhb => ?_⟩,P.2⟩
   ·obtain⟨a1,a2,a3⟩:=P.1.2.2.2.1 hb;exact⟨by omega,by omega,a3⟩
   ·obtain⟨a1,a2,a3⟩:=P.1.2.2.2.2 hb;exact⟨by omega,by omega,by omega⟩
end
section
variable {C:dH}{s:St}{i:Nat}
theorem Js{v:Nat}(hi:i<C.N)(hv:v<C.N)(h:v≠i):C.N≠1:=by omega
theorem pO(h:DT C s)(hi:i<C.N){v t x d}(hp:s.pc i= .fJ v t x):DT C (step C s i d).s:=by
 have P:=h.2 i hi;unfold Th at P;rw[hp]at P;simp only at P
 obtain⟨g1,g2,g3,g4⟩:=P
 have Hv:=h.1 v g1
 have Hi:=h.1 i hi
 unfold step;rw[hp];simp only
 split
 ·rename_i ht
  obtain⟨y,l,hq,hx⟩:=g4 ht.symm
  have ep:∀j,j≠i->(got ((s.wr (.top v) (t+1)).gy v (s.q v).tail) i x v).pc j=s.pc j:=λj hj=>aI hj
  have em:∀a,a≠.top v->(got ((s.wr (.top v) (t+1)).gy v (s.q v).tail) i x v).mem a=s.mem a:=λa ha=>aI ha
  have eS:∀j,j≠v->my s (got ((s.wr (.top v) (t+1)).gy v (s.q v).tail) i x v) j:=λj hj=>my.of (λa ha=>em a (λe=>hj (by rw[e]at ha;exact(Option.some.inj ha).symm))) rfl rfl (aI hj) rfl
  refine⟨λj hj => ?_,λk hk => ?_⟩
  ·by_cases e:j=v
   ·subst e;exact Hv.BH hq (by rw[St.T,ht];rfl) rfl rfl (by show(bq s.q j (s.q j).tail) j=l;rw[aL,hq];rfl) rfl (aI g2)
   ·by_cases e':j=i
    ·subst e'
     have hI:Idle (s.pc j):=by rw[hp];trivial
     refine Hi.idle (s':=got ((s.wr (.top v) (t+1)).gy v (s.q v).tail) j x v) ?_ hI (by simp[got,St.put,St.holds,St.to,Idle])
     ·exact my.of (λa ha=>em a (λe=>by rw[e]at ha;exact g2 (Option.some.inj ha))) rfl rfl (aI e) rfl
    ·exact(h.1 j hj).Af (eS j e) (ep j e')
  ·by_cases e:k=i
   ·subst e;exact Th.plain (by simp[got,St.eI,St.put,St.holds,St.to])
   ·refine(h.2 k hk).calm (λj hj => ?_) (ep k e)
    by_cases e':j=v
    ·subst e';refine⟨?_,aea _,λg hg=>em _ nofun,λhT => ?_⟩
     ·show s.mem (.top j)<=bq s.mem (.top j) (t+1) (.top j);rw[aL];omega
     ·have:s.mem (.top j)=bq s.mem (.top j) (t+1) (.top j):=hT
      rw[aL]at this;omega
    ·exact(eS j e').calm
 ·refine h.cg hi (λ_ _=>rfl) rfl rfl rfl rfl (λj hj=>P4 hj) (by rw[hp];trivial) (by rw[de];trivial) (by unfold Th;rw[de];exact Js hi g1 g2)
theorem vu(hi:i<C.N)(hN:C.N≠1)(d:Int):(i+1+(d%((C.N:Int)-1)).toNat)%C.N<C.N/\(i+1+(d%((C.N:Int)-1)).toNat)%C.N≠i:=by
 have h1:=af8 d (b:=(C.N:Int)-1) (by omega)
 have h2:=acH d (b:=(C.N:Int)-1) (by omega)
 generalize hr:(d%((C.N:Int)-1)).toNat=r
 have LZ:r<C.N-1:=by omega
 refine⟨Nat.mod_lt _ (by omega),?_⟩
 by_cases h:i+1+r<C.N
 ·rw[ago h];omega
 ·rw[Nat.mod_eq_sub_mod (by omega),ago (by omega)];omega
theorem D.bot_le{j:Nat}(h:D C s j):s.B j<=s.T j+s.L j:=by
 have P:=h.ph
 unfold gz at P
 split at P<;>simp only[nq,j7,St.B,St.T,St.L,St.cc]at * <;> first
  | omega
  | (rcases Int.lt_or_eq_of_le P.2.1 with e | e
     ·have:=P.2.2.2.1 e;omega
     ·have:=P.2.2.2.2 e;omega)
  | (rcases Int.lt_or_eq_of_le P.1.2.1 with e | e
     ·have:=P.1.2.2.2.1 e;omega
     ·have:=P.1.2.2.2.2 e;omega)
def KM:Pc->Prop
 | .gG | .nV | .jT .. | .gN .. | .gp .. | .eZ .. | .fJ .. => False
 | _=>True
theorem DT.fu{s':St}{p:Pc}(h:DT C s)(hi:i<C.N)(hm:∀a,a.own≠none->s'.mem a=s.mem a)(h1:s'.cur=s.cur)(h2:s'.base=s.base)(h3:s'.q=s.q)(h4:s'.pop=s.pop)
 (hp:s'.pc=bq s.pc i p) (D9:Idle (s.pc i)) (BG:Idle p) (hf:KM p):DT C s':=by
 have e:s'.pc i=p:=by rw[hp];exact aL _ _ _
 refine h.cg hi hm h1 h2 h3 h4 (λj hj=>by rw[hp];exact aI hj) D9 (by rw[e];exact BG) (Th.plain ?_)
 rw[e];cases p<;>first | exact hf | trivial
theorem DT.s9{s':St}(h:DT C s)(hi:i<C.N)(hm:∀a,a.own≠none->s'.mem a=s.mem a)(h1:s'.cur=s.cur)(h2:s'.base=s.base)(h3:s'.q=s.q)(h4:s'.pop=s.pop)
 (hp:s'.pc=s.pc) (D9:Idle (s.pc i)):DT C (pI s' C i):=
 h.cg hi hm h1 h2 h3 h4 (λj hj=>by show bq s'.pc i _ j=s.pc j;rw[aI hj,hp]) D9 nX Yc
theorem DT.same{s':St}(h:DT C s)(hi:i<C.N)(hm:∀a,a.own≠none->s'.mem a=s.mem a)(h1:s'.cur=s.cur)(h2:s'.base=s.base)(h3:s'.q=s.q)(h4:s'.pop=s.pop)(hp:s'.pc=s.pc)(hr:s.pc i= .run):DT C s':=
 h.cg hi hm h1 h2 h3 h4 (λj hj=>by rw[hp]) (by rw[hr];trivial) (by rw[hp,hr];trivial) (Th.plain (by rw[hp,hr];trivial))
theorem ta(h:DT C s)(hi:i<C.N)(hp:s.pc i= .run):DT C (instr C s i).s:=by
 unfold instr;simp only
 split
 ·exact h.same hi (λ_ _=>rfl) rfl rfl rfl rfl rfl hp
 ·exact h.same hi (λ_ _=>rfl) rfl rfl rfl rfl rfl hp
 ·exact h.same hi (λ_ _=>rfl) rfl rfl rfl rfl rfl hp
 ·exact h.same hi (λ_ _=>rfl) rfl rfl rfl rfl rfl hp
 ·exact h.same hi (λ_ _=>rfl) rfl rfl rfl rfl rfl hp
 ·exact h.same hi (λ_ _=>rfl) rfl rfl rfl rfl rfl hp
 ·exact h.same hi (λ_ _=>rfl) rfl rfl rfl rfl rfl hp
 ·split
  ·exact DT.fu h hi (by intro a ha;exact eJ (by intro e;rw[e]at ha;exact ha rfl)) rfl rfl rfl rfl rfl (by rw[hp];trivial) trivial trivial
  ·exact DT.fu h hi (by intro a ha;exact eJ (by intro e;rw[e]at ha;exact ha rfl)) rfl rfl rfl rfl rfl (by rw[hp];trivial) trivial trivial
 ·split
  ·exact DT.fu h hi (by intro a ha;exact eJ (by intro e;rw[e]at ha;exact ha rfl)) rfl rfl rfl rfl rfl (by rw[hp];trivial) trivial trivial
  ·exact DT.fu h hi (by intro a ha;exact eJ (by intro e;rw[e]at ha;exact ha rfl)) rfl rfl rfl rfl rfl (by rw[hp];trivial) trivial trivial
 ·split
  ·exact DT.fu h hi (by intro a ha;exact eJ (by intro e;rw[e]at ha;exact ha rfl)) rfl rfl rfl rfl rfl (by rw[hp];trivial) trivial trivial
  ·exact DT.fu h hi (by intro a ha;exact eJ (by intro e;rw[e]at ha;exact ha rfl)) rfl rfl rfl rfl rfl (by rw[hp];trivial) trivial trivial
theorem DT.step(h:DT C s)(hi:i<C.N)(d:Int):DT C (step C s i d).s:=by
 have H:=h.1 i hi
 have HT:=h.2 i hi
 have P:=H.ph
 cases hp:s.pc i with
 | grow=>exact vr h hi hp
 | fH=>exact qw h hi hp
 | dZ=>exact pJ h hi hp
 | ew=>exact oW h hi hp
 | fI=>exact qx h hi hp
 | ef=>exact pK h hi hp
 | gS=>exact qy h hi hp
 | nU=>exact vt h hi hp
 | gM=>exact pM h hi hp
 | gl=>exact Xo h hi hp
 | ij=>exact qB h hi hp
 | jA=>exact YV h hi hp
 | iL=>exact rQ h hi hp
 | fJ=>exact pO h hi hp
 | halted=>unfold Am.step;rw[hp];exact h
 | full=>unfold Am.step;rw[hp];exact h
 | nk c =>
  unfold Am.step;rw[hp]
  refine h.reads hi rfl rfl rfl rfl rfl (λj hj=>P4 hj) ?_ (Th.plain (by rw[de];trivial))
  have:=(gz.idle (by rw[hp];trivial)).1 P
  unfold gz;simp only[St.to,aL,St.B,St.T,St.L,St.cc]at *
  exact⟨trivial,this.1.symm,this.2⟩
 | lO c b =>
  unfold Am.step;rw[hp]
  refine h.reads hi rfl rfl rfl rfl rfl (λj hj=>P4 hj) ?_ (Th.plain (by rw[de];trivial))
  unfold gz at P⊢;rw[hp]at P;simp only[St.to,aL,St.B,St.T,St.L,St.cc]at *
  exact⟨P.1,P.2.1,P.2.2,agn _,by omega⟩
 | iG c b t =>
  unfold Am.step;rw[hp]
  refine h.reads hi rfl rfl rfl rfl rfl (λj hj=>P4 hj) ?_ (Th.plain (by rw[de];trivial))
  unfold gz at P⊢;rw[hp]at P;simp only[St.to,aL,St.B,St.T,St.L,St.cc]at *
  exact P
 | iH c b t =>
  unfold Am.step;rw[hp];simp only
  unfold gz at P;rw[hp]at P;simp only at P
  split
  ·refine h.reads hi rfl rfl rfl rfl rfl (λj hj=>P4 hj) ?_ (Th.plain (by rw[de];trivial))
   unfold gz;simp only[St.to,aL,St.B,St.T,St.L,St.cc]at *
   exact⟨P.1,P.2.1,by omega,CH⟩
  ·split
   ·refine h.reads hi rfl rfl rfl rfl rfl (λj hj=>P4 hj) ?_ (Th.plain (by rw[de];trivial))
    refine(gz.idle (by rw[de];trivial)).2 ?_
    simp only[St.to,aL,St.B,St.T,St.L,St.cc]at *
    exact⟨by omega,P.2.2.1⟩
   ·refine h.reads hi rfl rfl rfl rfl rfl (λj hj=>P4 hj) ?_ (Th.plain (by rw[de];trivial))
    unfold gz;simp only[nq,St.to,aL,St.B,St.T,St.L,St.cc]at *
    exact⟨P.1,P.2.1,P.2.2.1,P.2.2.2.1,trivial,by omega,by omega⟩
 | oV =>
  unfold Am.step;rw[hp]
  refine h.reads hi rfl rfl rfl rfl rfl (λj hj=>P4 hj) ?_ (Th.plain (by rw[de];trivial))
  have:=(gz.idle (by rw[hp];trivial)).1 P
  unfold gz;simp only[St.to,aL,St.B,St.T,St.L,St.cc]at *
  exact⟨by omega,by omega,this.2⟩
 | RU b =>
  unfold Am.step;rw[hp]
  refine h.reads hi rfl rfl rfl rfl rfl (λj hj=>P4 hj) ?_ (Th.plain (by rw[de];trivial))
  unfold gz at P⊢;rw[hp]at P;simp only[St.to,aL,St.B,St.T,St.L,St.cc]at *
  exact P
 | jS b t =>
  unfold Am.step;rw[hp]
  refine h.reads hi rfl rfl rfl rfl rfl (λj hj=>P4 hj) ?_ (Th.plain (by rw[de];trivial))
  unfold gz at P⊢;rw[hp]at P;simp only[j7,St.to,aL,St.B,St.T,St.L,St.cc]at *
  exact⟨P,CH⟩
 | gG =>
  have hN:C.N≠1:=by unfold Th at HT;rw[hp]at HT;exact HT
  unfold Am.step;rw[hp];simp only
  have hv:=vu hi hN d
  refine h.cg hi (λ_ _=>rfl) rfl rfl rfl rfl (λj hj=>P4 hj) (by rw[hp];trivial) (by rw[de];trivial) ?_
  unfold Th;rw[de];exact⟨hv.1,hv.2,agn _⟩
 | jT v t =>
  unfold Th at HT;rw[hp]at HT;simp only at HT
  unfold Am.step;rw[hp];simp only
  split
  ·refine h.cg hi (λ_ _=>rfl) rfl rfl rfl rfl (λj hj=>P4 hj) (by rw[hp];trivial) (by rw[de];trivial) ?_
   unfold Th;rw[de];exact Js hi HT.1 HT.2.1
  ·rename_i hb
   refine h.cg hi (λ_ _=>rfl) rfl rfl rfl rfl (λj hj=>P4 hj) (by rw[hp];trivial) (by rw[de];trivial) ?_
   unfold Th;rw[de]
   refine⟨HT.1,HT.2.1,HT.2.2,λht => ?_⟩
   have hB:=(h.1 v HT.1).bot_le
   intro hq
   have hB:s.B v<=s.T v+s.L v:=hB
   have:s.L v=0:=by show((s.q v).length:Int)=0;rw[show s.q v=[]from hq];rfl
   have ht':t=s.T v:=ht
   simp only[St.B]at hB
   omega
 | gN v t =>
  unfold Th at HT;rw[hp]at HT;simp only at HT
  unfold Am.step;rw[hp];simp only
  refine h.cg hi (λ_ _=>rfl) rfl rfl rfl rfl (λj hj=>P4 hj) (by rw[hp];trivial) (by rw[de];trivial) ?_
  unfold Th;rw[de]
  refine⟨HT.1,HT.2.1,HT.2.2.1,aea _,λht => ?_⟩
  obtain⟨x,l,hq⟩:=List.exists_cons_of_ne_nil (HT.2.2.2 ht)
  refine⟨x,l,hq,?_⟩
  have:=(h.1 v HT.1).els 0 (by rw[hq];simp)
  rw[hq]at this
  have ht':t=s.T v:=ht
  simp only[St.T,St.cc,List.getD_cons_zero]at this ht'
  rw[ht']
  simpa [St.to]using this
 | gp v t g =>
  unfold Th at HT;rw[hp]at HT;simp only at HT
  unfold Am.step;rw[hp];simp only
  refine h.cg hi (λ_ _=>rfl) rfl rfl rfl rfl (λj hj=>P4 hj) (by rw[hp];trivial) (by rw[de];trivial) ?_
  unfold Th;rw[de]
  exact⟨HT.1,HT.2.1,HT.2.2.1,HT.2.2.2.1,rfl,HT.2.2.2.2⟩
 | eZ v t g cc =>
  unfold Th at HT;rw[hp]at HT;simp only at HT
  unfold Am.step;rw[hp];simp only
  refine h.cg hi (λ_ _=>rfl) rfl rfl rfl rfl (λj hj=>P4 hj) (by rw[hp];trivial) (by rw[de];trivial) ?_
  unfold Th;rw[de]
  refine⟨HT.1,HT.2.1,HT.2.2.1,λht => ?_⟩
  obtain⟨x,l,hq,hx⟩:=HT.2.2.2.2.2 ht
  exact⟨x,l,hq,by rw[HT.2.2.2.2.1];exact hx⟩
 | nV =>
  have hN:C.N≠1:=by unfold Th at HT;rw[hp]at HT;exact HT
  unfold Am.step;rw[hp];simp only
  split
  ·exact h.cg hi (λ_ _=>rfl) rfl rfl rfl rfl (λj hj=>P4 hj) (by rw[hp];trivial) (by rw[de];trivial) (Th.plain (by rw[de];trivial))
  ·refine h.cg hi (λ_ _=>rfl) rfl rfl rfl rfl (λj hj=>P4 hj) (by rw[hp];trivial) (by rw[de];split<;>trivial) ?_
   unfold Th;rw[de]
   by_cases h3:s.tries i<3
   ·simp only[au h3];exact hN
   ·simp only[aj h3]
 | run =>
  unfold Am.step;rw[hp];simp only
  exact ta h hi hp
 | tell j =>
  unfold Am.step;rw[hp];simp only[fK]
  split
  ·exact DT.fu h hi (by intro a ha;exact eJ (by intro e;rw[e]at ha;exact ha rfl)) rfl rfl rfl rfl rfl (by rw[hp];trivial) trivial trivial
  ·split
   ·exact DT.fu h hi (λ_ _=>rfl) rfl rfl rfl rfl rfl (by rw[hp];trivial) trivial trivial
   ·exact DT.fu h hi (λ_ _=>rfl) rfl rfl rfl rfl rfl (by rw[hp];trivial) trivial trivial
 | kE j =>
  unfold Am.step;rw[hp];simp only[fK]
  split<;>exact DT.fu h hi (by intro a ha;exact eJ (by intro e;rw[e]at ha;exact ha rfl)) rfl rfl rfl rfl rfl (by rw[hp];trivial) trivial trivial
 | done =>
  unfold Am.step;rw[hp];simp only[fK]
  split<;>exact DT.fu h hi (by intro a ha;exact eJ (by intro e;rw[e]at ha;exact ha rfl)) rfl rfl rfl rfl rfl (by rw[hp];trivial) trivial trivial
 | out p c =>
  unfold Am.step;rw[hp];simp only
  split<;>exact DT.fu h hi (by intro a ha;exact eJ (by intro e;rw[e]at ha;exact ha rfl)) rfl rfl rfl rfl rfl (by rw[hp];trivial) trivial trivial
 | pG =>
  unfold Am.step;rw[hp];simp only
  refine DT.fu h hi (λ_ _=>rfl) rfl rfl rfl rfl rfl (by rw[hp];trivial) ?_ ?_<;>split<;>trivial
 | ji j =>
  unfold Am.step;rw[hp];simp only
  split
  ·exact DT.fu h hi (by intro a ha;exact eJ (by intro e;rw[e]at ha;exact ha rfl)) rfl rfl rfl rfl rfl (by rw[hp];trivial) trivial trivial
  ·refine DT.fu h hi (λ_ _=>rfl) rfl rfl rfl rfl rfl (by rw[hp];trivial) ?_ ?_<;>split<;>trivial
 | jM =>
  unfold Am.step;rw[hp];simp only[looking]
  split
  ·exact DT.fu h hi (λ_ _=>rfl) rfl rfl rfl rfl rfl (by rw[hp];trivial) trivial trivial
  ·split<;>exact DT.fu h hi (λ_ _=>rfl) rfl rfl rfl rfl rfl (by rw[hp];trivial) trivial trivial
 | nl j t =>
  unfold Am.step;rw[hp];simp only[looking]
  split
  ·exact DT.fu h hi (λ_ _=>rfl) rfl rfl rfl rfl rfl (by rw[hp];trivial) trivial trivial
  ·split<;>exact DT.fu h hi (λ_ _=>rfl) rfl rfl rfl rfl rfl (by rw[hp];trivial) trivial trivial
 | parked =>
  unfold Am.step;rw[hp];simp only
  split
  ·exact h
  ·exact DT.s9 h hi (s':=s.iM i 0) (λ_ _=>rfl) rfl rfl rfl rfl rfl (by rw[hp];trivial)
 | back b =>
  unfold Am.step;rw[hp];simp only[nn]
  split
  ·exact DT.fu h hi (by intro a ha;exact eJ (by intro e;rw[e]at ha;exact ha rfl)) rfl rfl rfl rfl rfl (by rw[hp];trivial) trivial trivial
  ·split
   ·exact DT.fu h hi (λ_ _=>rfl) rfl rfl rfl rfl rfl (by rw[hp];trivial) trivial trivial
   ·exact DT.s9 h hi (s':=s.iM i 0) (λ_ _=>rfl) rfl rfl rfl rfl rfl (by rw[hp];trivial)
 | j6 b =>
  unfold Am.step;rw[hp];simp only[nn]
  split
  ·exact DT.fu h hi (by intro a ha;exact eJ (by intro e;rw[e]at ha;exact ha rfl)) rfl rfl rfl rfl rfl (by rw[hp];trivial) trivial trivial
  ·exact DT.s9 h hi (s':=(s.wr .iR (s.mem .iR-1)).iM i 0) (by intro a ha;exact eJ (by intro e;rw[e]at ha;exact ha rfl)) rfl rfl rfl rfl rfl (by rw[hp];trivial)
 | start x=>unfold Am.step;rw[hp];exact DT.fu h hi (by intro a ha;exact eJ (by intro e;rw[e]at ha;exact ha rfl)) rfl rfl rfl rfl rfl (by rw[hp];trivial) trivial trivial
 | fork c=>unfold Am.step;rw[hp];exact DT.fu h hi (by intro a ha;exact eJ (by intro e;rw[e]at ha;exact ha rfl)) rfl rfl rfl rfl rfl (by rw[hp];trivial) trivial trivial
 | iF=>unfold Am.step;rw[hp];exact DT.fu h hi (by intro a ha;exact eJ (by intro e;rw[e]at ha;exact ha rfl)) rfl rfl rfl rfl rfl (by rw[hp];trivial) trivial trivial
 | take p c=>unfold Am.step;rw[hp];exact DT.fu h hi (by intro a ha;exact eJ (by intro e;rw[e]at ha;exact ha rfl)) rfl rfl rfl rfl rfl (by rw[hp];trivial) trivial trivial
 | j5 j=>unfold Am.step;rw[hp];exact DT.fu h hi (by intro a ha;exact eJ (by intro e;rw[e]at ha;exact ha rfl)) rfl rfl rfl rfl rfl (by rw[hp];trivial) trivial trivial
 | flag=>unfold Am.step;rw[hp];exact DT.fu h hi (by intro a ha;exact eJ (by intro e;rw[e]at ha;exact ha rfl)) rfl rfl rfl rfl rfl (by rw[hp];trivial) trivial trivial
 | sleep=>unfold Am.step;rw[hp];exact DT.fu h hi (by intro a ha;exact eJ (by intro e;rw[e]at ha;exact ha rfl)) rfl rfl rfl rfl rfl (by rw[hp];trivial) trivial trivial
 | od j=>unfold Am.step;rw[hp];exact DT.fu h hi (λ_ _=>rfl) rfl rfl rfl rfl rfl (by rw[hp];trivial) trivial trivial
end
inductive BI | none | full | start | run | fork (c:Nat) | push (c:Nat) | one | out (p c:Nat) | take (p c:Nat)
deriving DecidableEq
def sig:Pc->BI
 | .start _=>.start
 | .run | .pG | .ji _ | .j5 _=>.run
 | .fork c=>.fork c
 | .nk c | .lO c _ | .iG c _ _ | .iH c _ _ | .grow c _ _ _ | .fH c _ _ _ | .dZ c _ _ _ _
 | .ew c _ _ _ _ _ | .fI c _ _ _ | .ef c _ _ | .gS c _=>.push c
 | .iF=>.one
 | .out p c=>.out p c
 | .take p c=>.take p c
 | .full=>.full
 | _=>.none
structure V where
 g:Nat->BI
 hold:Nat->Option Nat
 loc:Nat->Loc
 par:Nat->Nat
 nf:Nat
 aR:Nat->List Nat
 q:Nat->List Nat
 pop:Nat->Option Nat
 join:Nat->Int
 mark:Nat->Int
 next:Int
def J(l:Loc)(n:Int)(k:List Nat):Prop:=
 match l with
 | .waiting=>n=k.length/\k≠[]
 | .Q5 _ | .Sq _=>n=0/\k=[]
 | _=>n=1+k.length
def early:Loc->Bool
 | .free | .ct _ | .yp _ | .pop _=>true
 | _=>false
def busy:BI->Bool
 | .start | .run | .fork _ | .push _ | .one=>true
 | _=>false
def rest:BI->Bool
 | .none | .out _ _ | .take _ _=>true
 | _=>false
def tc(N:Nat)(g:Nat->BI)(c:Nat):Loc->Prop
 | .ct j=>j<N/\g j= .fork c
 | _=>False
structure V.FI(N F:Nat)(v:V):Prop where
 lC:1<=v.nf
 RV:v.nf<=F
 nx:v.next=v.nf∨(v.nf=F/\(F:Int)<=v.next)
 free:∀f,v.nf<=f->v.loc f= .free
 used:∀f,f<v.nf->v.loc f≠.free
 new:∀f,v.nf<=f->v.aR f=[]/\v.join f=1
 hold:∀i f,i<N->v.hold i=some f->(v.g i= .one/\v.loc f= .Q5 i)∨(v.g i≠.one/\v.loc f= .held i)
 hs:∀i,i<N->busy (v.g i)=true->v.hold i≠.none
 hr:∀i,i<N->rest (v.g i)=true->v.hold i= .none
 fk:∀i c,i<N->v.g i= .fork c->c≠0/\v.loc c= .ct i/\v.hold i=some (v.par c)/\∀p,c∉v.aR p
 ps:∀i c,i<N->v.g i= .push c->c≠0/\v.loc c= .ct i/\v.hold i=some (v.par c)/\c∈v.aR (v.par c)
 q:∀j x,j<N->x∈v.q j->x≠0/\v.loc x= .yp j
 qn:∀j,j<N->(v.q j).Nodup
 pop:∀i x,i<N->v.pop i=some x->x≠0/\v.loc x= .pop i
 tk:∀i p c,i<N->v.g i= .take p c->v.loc p= .Sq i
 tp:∀i p c,i<N->v.g i= .take p c->c≠0/\c<v.nf/\p=v.par c
 out:∀i p c,i<N->v.g i= .out p c->c≠0/\v.loc c= .fin i/\p=v.par c
 kn:∀p,(v.aR p).Nodup
 kd:∀p c,c∈v.aR p->c≠0/\v.par c=p/\v.loc c≠.gone/\v.loc c≠.free
 un:∀c,c≠0->c<v.nf->v.loc c≠.gone->c∈v.aR (v.par c)∨tc N v.g c (v.loc c)
 pr:∀c,c<v.nf->v.par c<v.nf
 jn:∀f,f<v.nf->J (v.loc f) (v.join f) (v.aR f)
 k8:∀f,early (v.loc f)=true->v.mark f=0
 SQ:∀i f,i<N->v.g i= .start->v.hold i=some f->v.mark f=0
attribute [grind =] bM
attribute [grind] early busy rest
theorem xg{N g c l}:tc N g c l=match (l:Loc)with | .ct j=>j<N/\g j= .fork c | _=>False:=by cases l<;>rfl
theorem Jt{l n k}:J l n k=match (l:Loc)with | .waiting=>n=k.length/\k≠[] | .Q5 _ | .Sq _=>n=0/\k=[] | _=>n=1+(k.length:Int):=by cases l<;>rfl
attribute [grind =] xg Jt
namespace V
variable {N F:Nat}{v:V}{i:Nat}
theorem FI.cg(h:v.FI N F)(hi:i<N){p:BI}(hb:busy p=true)(hg:busy (v.g i)=true)(hp:p= .run∨p= .full)(h1:v.g i≠.one)(hn:∀c,v.g i≠.fork c) :
 FI N F {v with g:=bq v.g i p} where
 lC:=h.lC
 RV:=h.RV
 nx:=h.nx
 free:=h.free
 used:=h.used
 new:=h.new
 hold:=by have z0:=h.hold;grind
 hs:=by have z0:=h.hs;grind
 hr:=by have z0:=h.hr;grind
 fk:=by have z0:=h.fk;grind
 ps:=by have z0:=h.ps;grind
 q:=h.q
 qn:=h.qn
 pop:=h.pop
 tk:=by have z0:=h.tk;grind
 out:=by have z0:=h.out;grind
 tp:=by have z0:=h.tp;grind
 kn:=h.kn
 kd:=h.kd
 un:=by have z0:=h.un;grind
 pr:=h.pr
 jn:=h.jn
 k8:=h.k8
 SQ:=by have z0:=h.SQ;grind
theorem FI.full(h:v.FI N F)(hi:i<N)(hg:busy (v.g i)=true)(h1:v.g i≠.one)(hn:∀c,v.g i≠.fork c) :
 FI N F {v with g:=bq v.g i .full} where
 lC:=h.lC
 RV:=h.RV
 nx:=h.nx
 free:=h.free
 used:=h.used
 new:=h.new
 hold:=by have z0:=h.hold;grind
 hs:=by have z0:=h.hs;grind
 hr:=by have z0:=h.hr;grind
 fk:=by have z0:=h.fk;grind
 ps:=by have z0:=h.ps;grind
 q:=h.q
 qn:=h.qn
 pop:=h.pop
 tk:=by have z0:=h.tk;grind
 out:=by have z0:=h.out;grind
 tp:=by have z0:=h.tp;grind
 kn:=h.kn
 kd:=h.kd
 un:=by have z0:=h.un;grind
 pr:=h.pr
 jn:=h.jn
 k8:=h.k8
 SQ:=by have z0:=h.SQ;grind
theorem FI.start(h:v.FI N F)(hi:i<N)(hg:v.g i= .start){f:Nat}(hf:v.hold i=some f){m:Int} :
 FI N F {v with g:=bq v.g i .run,mark:=bq v.mark f m} where
 lC:=h.lC
 RV:=h.RV
 nx:=h.nx
 free:=h.free
 used:=h.used
 new:=h.new
 hold:=by have z0:=h.hold;grind
 hs:=by have z0:=h.hs;grind
 hr:=by have z0:=h.hr;grind
 fk:=by have z0:=h.fk;grind
 ps:=by have z0:=h.ps;grind
 q:=h.q
 qn:=h.qn
 pop:=h.pop
 tk:=by have z0:=h.tk;grind
 out:=by have z0:=h.out;grind
 tp:=by have z0:=h.tp;grind
 kn:=h.kn
 kd:=h.kd
 un:=by have z0:=h.un;grind
 pr:=h.pr
 jn:=h.jn
 k8:=by have z0:=h.k8;have z1:=h.hold;grind
 SQ:=by have z0:=h.SQ;have z1:=h.hold;grind
theorem FI.spawn(h:v.FI N F)(hi:i<N)(hg:v.g i= .run){f:Nat}(hf:v.hold i=some f)(hn:v.next<F) :
 FI N F {v with g:=bq v.g i (.fork v.nf),next:=v.next+1,nf:=v.nf+1,par:=bq v.par v.nf f,loc:=bq v.loc v.nf (.ct i)} where
 lC:=by have z0:=h.lC;have z1:=h.free;have z2:=h.used;grind
 RV:=by have z0:=h.RV;have z1:=h.free;have z2:=h.used;have z3:=h.nx;grind
 nx:=by have z0:=h.nx;have z1:=h.free;have z2:=h.used;have z3:=h.RV;grind
 free:=by have z0:=h.free;have z1:=h.used;grind
 used:=by have z0:=h.used;have z1:=h.free;grind
 new:=by have z0:=h.new;have z1:=h.free;have z2:=h.used;grind
 hold:=by have z0:=h.hold;have z1:=h.free;have z2:=h.used;grind
 hs:=by have z0:=h.hs;have z1:=h.free;have z2:=h.used;grind
 hr:=by have z0:=h.hr;have z1:=h.free;have z2:=h.used;grind
 fk:=by have z0:=h.fk;have z1:=h.free;have z2:=h.used;have z3:=h.kd;have z4:=h.new;have z5:=h.hold;grind
 ps:=by have z0:=h.ps;have z1:=h.free;have z2:=h.used;have z3:=h.kd;grind
 q:=by have z0:=h.q;have z1:=h.free;have z2:=h.used;grind
 qn:=h.qn
 pop:=by have z0:=h.pop;have z1:=h.free;have z2:=h.used;grind
 tk:=by have z0:=h.tk;have z1:=h.free;have z2:=h.used;grind
 out:=by have z0:=h.out;have z1:=h.free;have z2:=h.used;have z3:=h.pr;grind
 tp:=by have z0:=h.tp;have z1:=h.free;have z2:=h.used;grind
 kn:=h.kn
 kd:=by have z0:=h.kd;have z1:=h.free;have z2:=h.used;have z3:=h.new;grind
 un:=by have z0:=h.un;have z1:=h.free;have z2:=h.used;grind
 pr:=by have z0:=h.pr;have z1:=h.free;have z2:=h.used;have z3:=h.hold;grind
 jn:=by have z0:=h.jn;have z1:=h.free;have z2:=h.used;have z3:=h.new;grind
 k8:=by have z0:=h.k8;have z1:=h.free;have z2:=h.used;grind
 SQ:=by have z0:=h.SQ;have z1:=h.free;have z2:=h.used;grind
theorem FI.mz(h:v.FI N F)(hi:i<N)(hg:v.g i= .run)(hn:(F:Int)<=v.next) :
 FI N F {v with g:=bq v.g i .full,next:=v.next+1} where
 lC:=h.lC
 RV:=h.RV
 nx:=by have z0:=h.nx;have z1:=h.RV;grind
 free:=h.free
 used:=h.used
 new:=h.new
 hold:=by have z0:=h.hold;grind
 hs:=by have z0:=h.hs;grind
 hr:=by have z0:=h.hr;grind
 fk:=by have z0:=h.fk;grind
 ps:=by have z0:=h.ps;grind
 q:=h.q
 qn:=h.qn
 pop:=h.pop
 tk:=by have z0:=h.tk;grind
 out:=by have z0:=h.out;grind
 tp:=by have z0:=h.tp;grind
 kn:=h.kn
 kd:=h.kd
 un:=by have z0:=h.un;grind
 pr:=h.pr
 jn:=h.jn
 k8:=h.k8
 SQ:=by have z0:=h.SQ;grind
theorem FI.fork(h:v.FI N F)(hi:i<N){c f:Nat}(hg:v.g i= .fork c)(hf:v.hold i=some f) :
 FI N F {v with g:=bq v.g i (.push c),join:=bq v.join f (v.join f+1),aR:=bq v.aR f (c::v.aR f)} where
 lC:=h.lC
 RV:=h.RV
 nx:=h.nx
 free:=h.free
 used:=h.used
 new:=by have z0:=h.new;have z1:=h.fk;have z2:=h.hold;have z3:=h.free;grind
 hold:=by have z0:=h.hold;have z1:=h.fk;grind
 hs:=by have z0:=h.hs;have z1:=h.fk;have z2:=h.hold;grind
 hr:=by have z0:=h.hr;have z1:=h.fk;have z2:=h.hold;grind
 fk:=by have z0:=h.fk;have z1:=h.hold;grind
 ps:=by have z0:=h.ps;have z1:=h.fk;have z2:=h.hold;grind
 q:=h.q
 qn:=h.qn
 pop:=h.pop
 tk:=by have z0:=h.tk;have z1:=h.fk;have z2:=h.hold;grind
 out:=by have z0:=h.out;have z1:=h.fk;have z2:=h.hold;grind
 tp:=by have z0:=h.tp;have z1:=h.fk;have z2:=h.hold;grind
 kn:=by have z0:=h.kn;have z1:=h.fk;have z2:=h.hold;grind
 kd:=by have z0:=h.kd;have z1:=h.fk;have z2:=h.hold;grind
 un:=by have z0:=h.un;have z1:=h.fk;have z2:=h.hold;grind
 pr:=h.pr
 jn:=by have z0:=h.jn;have z1:=h.fk;have z2:=h.hold;grind
 k8:=h.k8
 SQ:=by have z0:=h.SQ;have z1:=h.fk;have z2:=h.hold;grind
theorem FI.push(h:v.FI N F)(hi:i<N){c:Nat}(hg:v.g i= .push c) :
 FI N F {v with g:=bq v.g i .run,q:=bq v.q i (v.q i++[c]),loc:=bq v.loc c (.yp i)} where
 lC:=h.lC
 RV:=h.RV
 nx:=h.nx
 free:=by have z0:=h.free;have z1:=h.ps;grind
 used:=by have z0:=h.used;have z1:=h.ps;grind
 new:=h.new
 hold:=by have z0:=h.hold;have z1:=h.ps;grind
 hs:=by have z0:=h.hs;have z1:=h.ps;grind
 hr:=by have z0:=h.hr;have z1:=h.ps;grind
 fk:=by have z0:=h.fk;have z1:=h.ps;grind
 ps:=by have z0:=h.ps;grind
 q:=by have z0:=h.q;have z1:=h.ps;grind
 qn:=by have z0:=h.qn;have z1:=h.ps;have z2:=h.q;grind
 pop:=by have z0:=h.pop;have z1:=h.ps;grind
 tk:=by have z0:=h.tk;have z1:=h.ps;grind
 out:=by have z0:=h.out;have z1:=h.ps;grind
 tp:=by have z0:=h.tp;have z1:=h.ps;grind
 kn:=h.kn
 kd:=by have z0:=h.kd;have z1:=h.ps;grind
 un:=by have z0:=h.un;have z1:=h.ps;have z2:=h.hold;grind
 pr:=h.pr
 jn:=by have z0:=h.jn;have z1:=h.ps;grind
 k8:=by have z0:=h.k8;have z1:=h.ps;grind
 SQ:=by have z0:=h.SQ;have z1:=h.ps;have z2:=h.hold;grind
theorem FI.wait(h:v.FI N F)(hi:i<N){f:Nat}(hg:v.g i= .run)(hf:v.hold i=some f)(hk:0<v.join f-1) :
 FI N F {v with g:=bq v.g i .none,hold:=bq v.hold i none,join:=bq v.join f (v.join f-1),loc:=bq v.loc f .waiting} where
 lC:=h.lC
 RV:=h.RV
 nx:=h.nx
 free:=by have z0:=h.free;have z1:=h.hold;grind
 used:=by have z0:=h.used;have z1:=h.hold;grind
 new:=by have z0:=h.new;have z1:=h.hold;have z2:=h.free;grind
 hold:=by have z0:=h.hold;grind
 hs:=by have z0:=h.hs;have z1:=h.hold;grind
 hr:=by have z0:=h.hr;have z1:=h.hold;grind
 fk:=by have z0:=h.fk;have z1:=h.hold;grind
 ps:=by have z0:=h.ps;have z1:=h.hold;grind
 q:=by have z0:=h.q;have z1:=h.hold;grind
 qn:=h.qn
 pop:=by have z0:=h.pop;have z1:=h.hold;grind
 tk:=by have z0:=h.tk;have z1:=h.hold;grind
 out:=by have z0:=h.out;have z1:=h.hold;grind
 tp:=by have z0:=h.tp;have z1:=h.hold;grind
 kn:=h.kn
 kd:=by have z0:=h.kd;have z1:=h.hold;grind
 un:=by have z0:=h.un;have z1:=h.hold;grind
 pr:=h.pr
 jn:=by have z0:=h.jn;have z1:=h.hold;grind
 k8:=by have z0:=h.k8;have z1:=h.hold;grind
 SQ:=by have z0:=h.SQ;have z1:=h.hold;grind
theorem FI.pass(h:v.FI N F)(hi:i<N){f:Nat}(hg:v.g i= .run)(hf:v.hold i=some f)(hk:¬0<v.join f-1) :
 FI N F {v with g:=bq v.g i .one,join:=bq v.join f (v.join f-1),loc:=bq v.loc f (.Q5 i)} where
 lC:=h.lC
 RV:=h.RV
 nx:=h.nx
 free:=by have z0:=h.free;have z1:=h.hold;grind
 used:=by have z0:=h.used;have z1:=h.hold;grind
 new:=by have z0:=h.new;have z1:=h.hold;have z2:=h.free;grind
 hold:=by have z0:=h.hold;grind
 hs:=by have z0:=h.hs;have z1:=h.hold;grind
 hr:=by have z0:=h.hr;have z1:=h.hold;grind
 fk:=by have z0:=h.fk;have z1:=h.hold;grind
 ps:=by have z0:=h.ps;have z1:=h.hold;grind
 q:=by have z0:=h.q;have z1:=h.hold;grind
 qn:=h.qn
 pop:=by have z0:=h.pop;have z1:=h.hold;grind
 tk:=by have z0:=h.tk;have z1:=h.hold;grind
 out:=by have z0:=h.out;have z1:=h.hold;grind
 tp:=by have z0:=h.tp;have z1:=h.hold;grind
 kn:=h.kn
 kd:=by have z0:=h.kd;have z1:=h.hold;grind
 un:=by have z0:=h.un;have z1:=h.hold;grind
 pr:=h.pr
 jn:=by have z0:=h.jn;have z1:=h.hold;grind [List.length_eq_zero_iff]
 k8:=by have z0:=h.k8;have z1:=h.hold;grind
 SQ:=by have z0:=h.SQ;have z1:=h.hold;grind
theorem FI.one(h:v.FI N F)(hi:i<N){f:Nat}(hg:v.g i= .one)(hf:v.hold i=some f) :
 FI N F {v with g:=bq v.g i .run,join:=bq v.join f 1,loc:=bq v.loc f (.held i)} where
 lC:=h.lC
 RV:=h.RV
 nx:=h.nx
 free:=by have z0:=h.free;have z1:=h.hold;grind
 used:=by have z0:=h.used;have z1:=h.hold;grind
 new:=by have z0:=h.new;have z1:=h.hold;have z2:=h.free;grind
 hold:=by have z0:=h.hold;grind
 hs:=by have z0:=h.hs;have z1:=h.hold;grind
 hr:=by have z0:=h.hr;have z1:=h.hold;grind
 fk:=by have z0:=h.fk;have z1:=h.hold;grind
 ps:=by have z0:=h.ps;have z1:=h.hold;grind
 q:=by have z0:=h.q;have z1:=h.hold;grind
 qn:=h.qn
 pop:=by have z0:=h.pop;have z1:=h.hold;grind
 tk:=by have z0:=h.tk;have z1:=h.hold;grind
 out:=by have z0:=h.out;have z1:=h.hold;grind
 tp:=by have z0:=h.tp;have z1:=h.hold;grind
 kn:=h.kn
 kd:=by have z0:=h.kd;have z1:=h.hold;grind
 un:=by have z0:=h.un;have z1:=h.hold;grind
 pr:=h.pr
 jn:=by have z0:=h.jn;have z1:=h.hold;grind
 k8:=by have z0:=h.k8;have z1:=h.hold;grind
 SQ:=by have z0:=h.SQ;have z1:=h.hold;grind
theorem FI.Yd(h:v.FI N F)(hi:i<N)(hg:v.g i= .run)(hf:v.hold i=some 0) :
 FI N F {v with g:=bq v.g i .none,hold:=bq v.hold i none,loc:=bq v.loc 0 (.fin i)} where
 lC:=h.lC
 RV:=h.RV
 nx:=h.nx
 free:=by have z0:=h.free;have z1:=h.hold;grind
 used:=by have z0:=h.used;have z1:=h.hold;grind
 new:=h.new
 hold:=by have z0:=h.hold;grind
 hs:=by have z0:=h.hs;have z1:=h.hold;grind
 hr:=by have z0:=h.hr;have z1:=h.hold;grind
 fk:=by have z0:=h.fk;have z1:=h.hold;grind
 ps:=by have z0:=h.ps;have z1:=h.hold;grind
 q:=by have z0:=h.q;have z1:=h.hold;grind
 qn:=h.qn
 pop:=by have z0:=h.pop;have z1:=h.hold;grind
 tk:=by have z0:=h.tk;have z1:=h.hold;grind
 out:=by have z0:=h.out;have z1:=h.hold;grind
 tp:=by have z0:=h.tp;have z1:=h.hold;grind
 kn:=h.kn
 kd:=by have z0:=h.kd;have z1:=h.hold;grind
 un:=by have z0:=h.un;have z1:=h.hold;grind
 pr:=h.pr
 jn:=by have z0:=h.jn;have z1:=h.hold;grind
 k8:=by have z0:=h.k8;have z1:=h.hold;grind
 SQ:=by have z0:=h.SQ;have z1:=h.hold;grind
theorem FI.ret(h:v.FI N F)(hi:i<N)(hg:v.g i= .run){f:Nat}(hf:v.hold i=some f)(h0:f≠0) :
 FI N F {v with g:=bq v.g i (.out (v.par f) f),hold:=bq v.hold i none,loc:=bq v.loc f (.fin i)} where
 lC:=h.lC
 RV:=h.RV
 nx:=h.nx
 free:=by have z0:=h.free;have z1:=h.hold;grind
 used:=by have z0:=h.used;have z1:=h.hold;grind
 new:=h.new
 hold:=by have z0:=h.hold;grind
 hs:=by have z0:=h.hs;have z1:=h.hold;grind
 hr:=by have z0:=h.hr;have z1:=h.hold;grind
 fk:=by have z0:=h.fk;have z1:=h.hold;grind
 ps:=by have z0:=h.ps;have z1:=h.hold;grind
 q:=by have z0:=h.q;have z1:=h.hold;grind
 qn:=h.qn
 pop:=by have z0:=h.pop;have z1:=h.hold;grind
 tk:=by have z0:=h.tk;have z1:=h.hold;grind
 out:=by have z0:=h.out;have z1:=h.hold;grind
 tp:=by have z0:=h.tp;have z1:=h.hold;grind
 kn:=h.kn
 kd:=by have z0:=h.kd;have z1:=h.hold;grind
 un:=by have z0:=h.un;have z1:=h.hold;grind
 pr:=h.pr
 jn:=by have z0:=h.jn;have z1:=h.hold;grind
 k8:=by have z0:=h.k8;have z1:=h.hold;grind
 SQ:=by have z0:=h.SQ;have z1:=h.hold;grind
theorem FI.cx(h:v.FI N F)(hi:i<N){p c:Nat}(hg:v.g i= .out p c):c∈v.aR p/\c<v.nf/\p<v.nf/\p=v.par c/\v.loc c= .fin i/\c≠0:=by
 have z0:=h.out i p c hi hg;have z1:=h.free c;have z2:=h.un c;have z3:=h.pr c;grind
theorem FI.cT(h:v.FI N F)(hi:i<N){p c:Nat}(hg:v.g i= .out p c)(hn:v.join p-1=0):v.loc p= .waiting/\v.aR p=[c]/\p≠c:=by
 obtain⟨a1,a2,a3,a4,a5,a6⟩:=h.cx hi hg
 have z:=h.jn p a3
 rw[Jt]at z
 have hl:0<(v.aR p).length:=List.length_pos_of_mem a1
 split at z
 ·rename_i hw
  refine⟨hw,?_,?_⟩
  ·have:(v.aR p).length=1:=by omega
   obtain⟨y,hy⟩:=List.length_eq_one_iff.1 this
   rw[hy]at a1⊢;rw[List.mem_singleton.1 a1]
  ·rintro rfl;rw[hw]at a5;cases a5
 ·rw[z.2]at a1;cases a1
 ·rw[z.2]at a1;cases a1
 ·omega
theorem FI.td(h:v.FI N F)(hi:i<N){p c:Nat}(hg:v.g i= .out p c)(hn:v.join p-1≠0) :
 FI N F {v with g:=bq v.g i .none,join:=bq v.join p (v.join p-1),aR:=bq v.aR p ((v.aR p).erase c),loc:=bq v.loc c .gone} where
 lC:=h.lC
 RV:=h.RV
 nx:=h.nx
 free:=by have y1:=h.cx hi hg;have z0:=h.free;have z1:=h.out;grind [List.length_erase_of_mem,List.Nodup.mem_erase_iff,List.Nodup.erase,List.length_eq_zero_iff]
 used:=by have y1:=h.cx hi hg;have z0:=h.used;have z1:=h.out;grind [List.length_erase_of_mem,List.Nodup.mem_erase_iff,List.Nodup.erase,List.length_eq_zero_iff]
 new:=by have y1:=h.cx hi hg;have z0:=h.new;have z1:=h.out;have z2:=h.free;grind [List.length_erase_of_mem,List.Nodup.mem_erase_iff,List.Nodup.erase,List.length_eq_zero_iff]
 hold:=by have y1:=h.cx hi hg;have z0:=h.hold;have z1:=h.out;grind [List.length_erase_of_mem,List.Nodup.mem_erase_iff,List.Nodup.erase,List.length_eq_zero_iff]
 hs:=by have y1:=h.cx hi hg;have z0:=h.hs;have z1:=h.out;grind [List.length_erase_of_mem,List.Nodup.mem_erase_iff,List.Nodup.erase,List.length_eq_zero_iff]
 hr:=by have y1:=h.cx hi hg;have z0:=h.hr;have z1:=h.out;grind [List.length_erase_of_mem,List.Nodup.mem_erase_iff,List.Nodup.erase,List.length_eq_zero_iff]
 fk:=by have y1:=h.cx hi hg;have z0:=h.fk;have z1:=h.out;grind [List.length_erase_of_mem,List.Nodup.mem_erase_iff,List.Nodup.erase,List.length_eq_zero_iff]
 ps:=by have y1:=h.cx hi hg;have z0:=h.ps;have z1:=h.out;grind [List.length_erase_of_mem,List.Nodup.mem_erase_iff,List.Nodup.erase,List.length_eq_zero_iff]
 q:=by have y1:=h.cx hi hg;have z0:=h.q;have z1:=h.out;grind [List.length_erase_of_mem,List.Nodup.mem_erase_iff,List.Nodup.erase,List.length_eq_zero_iff]
 qn:=h.qn
 pop:=by have y1:=h.cx hi hg;have z0:=h.pop;have z1:=h.out;grind [List.length_erase_of_mem,List.Nodup.mem_erase_iff,List.Nodup.erase,List.length_eq_zero_iff]
 tk:=by have y1:=h.cx hi hg;have z0:=h.tk;have z1:=h.out;grind [List.length_erase_of_mem,List.Nodup.mem_erase_iff,List.Nodup.erase,List.length_eq_zero_iff]
 out:=by have y1:=h.cx hi hg;have z0:=h.out;grind [List.length_erase_of_mem,List.Nodup.mem_erase_iff,List.Nodup.erase,List.length_eq_zero_iff]
 tp:=by have y1:=h.cx hi hg;have z0:=h.tp;have z1:=h.out;grind [List.length_erase_of_mem,List.Nodup.mem_erase_iff,List.Nodup.erase,List.length_eq_zero_iff]
 kn:=by have y1:=h.cx hi hg;have z0:=h.kn;have z1:=h.out;grind [List.length_erase_of_mem,List.Nodup.mem_erase_iff,List.Nodup.erase,List.length_eq_zero_iff]
 kd:=by have y1:=h.cx hi hg;have z0:=h.kd;have z1:=h.out;have z2:=h.kn;grind [List.length_erase_of_mem,List.Nodup.mem_erase_iff,List.Nodup.erase,List.length_eq_zero_iff]
 un:=λx h0 KN hl=>by
  have hne:x≠c:=by rintro rfl;exact hl (aL _ _ _)
  have hl':bq v.loc c .gone x=v.loc x:=aI hne
  show x∈bq v.aR p ((v.aR p).erase c) (v.par x)∨tc N (bq v.g i .none) x (bq v.loc c .gone x)
  change bq v.loc c .gone x≠.gone at hl
  rw[hl']at hl⊢
  rcases h.un x h0 KN hl with a | a
  ·left;rw[bM];split
   ·next e=>exact(List.mem_erase_of_ne hne).2 (e▸ a)
   ·exact a
  ·right;clear hl';revert a;cases v.loc x<;>grind
 pr:=h.pr
 jn:=by have y1:=h.cx hi hg;have z0:=h.jn;have z1:=h.out;have z2:=h.kn;grind [List.length_erase_of_mem,List.Nodup.mem_erase_iff,List.Nodup.erase,List.length_eq_zero_iff]
 k8:=by have y1:=h.cx hi hg;have z0:=h.k8;have z1:=h.out;grind [List.length_erase_of_mem,List.Nodup.mem_erase_iff,List.Nodup.erase,List.length_eq_zero_iff]
 SQ:=by have y1:=h.cx hi hg;have z0:=h.SQ;have z1:=h.out;grind [List.length_erase_of_mem,List.Nodup.mem_erase_iff,List.Nodup.erase,List.length_eq_zero_iff]
theorem FI.tg(h:v.FI N F)(hi:i<N){p c:Nat}(hg:v.g i= .out p c)(hn:v.join p-1=0) :
 FI N F {v with g:=bq v.g i (.take p c),join:=bq v.join p (v.join p-1),aR:=bq v.aR p ((v.aR p).erase c),loc:=bq (bq v.loc c .gone) p (.Sq i)} where
 lC:=h.lC
 RV:=h.RV
 nx:=h.nx
 free:=by have y1:=h.cx hi hg;have y2:=h.cT hi hg hn;have z0:=h.free;grind [List.erase_cons_head]
 used:=by have y1:=h.cx hi hg;have y2:=h.cT hi hg hn;have z0:=h.used;grind [List.erase_cons_head]
 new:=by have y1:=h.cx hi hg;have y2:=h.cT hi hg hn;have z0:=h.new;have z1:=h.free;grind [List.erase_cons_head]
 hold:=by have y1:=h.cx hi hg;have y2:=h.cT hi hg hn;have z0:=h.hold;grind [List.erase_cons_head]
 hs:=by have y1:=h.cx hi hg;have y2:=h.cT hi hg hn;have z0:=h.hs;grind [List.erase_cons_head]
 hr:=by have y1:=h.cx hi hg;have y2:=h.cT hi hg hn;have z0:=h.hr;grind [List.erase_cons_head]
 fk:=by have y1:=h.cx hi hg;have y2:=h.cT hi hg hn;have z0:=h.fk;grind [List.erase_cons_head]
 ps:=by have y1:=h.cx hi hg;have y2:=h.cT hi hg hn;have z0:=h.ps;grind [List.erase_cons_head]
 q:=by have y1:=h.cx hi hg;have y2:=h.cT hi hg hn;have z0:=h.q;grind [List.erase_cons_head]
 qn:=h.qn
 pop:=by have y1:=h.cx hi hg;have y2:=h.cT hi hg hn;have z0:=h.pop;grind [List.erase_cons_head]
 tk:=by have y1:=h.cx hi hg;have y2:=h.cT hi hg hn;have z0:=h.tk;grind [List.erase_cons_head]
 out:=by have y1:=h.cx hi hg;have y2:=h.cT hi hg hn;have z0:=h.out;grind [List.erase_cons_head]
 tp:=by have y1:=h.cx hi hg;have y2:=h.cT hi hg hn;have z0:=h.tp;grind [List.erase_cons_head]
 kn:=by have y1:=h.cx hi hg;have y2:=h.cT hi hg hn;have z0:=h.kn;grind [List.erase_cons_head]
 kd:=by have y1:=h.cx hi hg;have y2:=h.cT hi hg hn;have z0:=h.kd;grind [List.erase_cons_head]
 un:=by have y1:=h.cx hi hg;have y2:=h.cT hi hg hn;have z0:=h.un;have z1:=h.kd;grind [List.erase_cons_head]
 pr:=h.pr
 jn:=by have y1:=h.cx hi hg;have y2:=h.cT hi hg hn;have z0:=h.jn;grind [List.erase_cons_head]
 k8:=by have y1:=h.cx hi hg;have y2:=h.cT hi hg hn;have z0:=h.k8;grind [List.erase_cons_head]
 SQ:=by have y1:=h.cx hi hg;have y2:=h.cT hi hg hn;have z0:=h.SQ;grind [List.erase_cons_head]
theorem FI.take(h:v.FI N F)(hi:i<N){p c:Nat}(hg:v.g i= .take p c) :
 FI N F {v with g:=bq v.g i .run,hold:=bq v.hold i (some p),join:=bq v.join p 1,loc:=bq v.loc p (.held i)} where
 lC:=h.lC
 RV:=h.RV
 nx:=h.nx
 free:=by have z0:=h.free;have z1:=h.tk;have z2:=h.hold;grind
 used:=by have z0:=h.used;have z1:=h.tk;have z2:=h.hold;grind
 new:=by have z0:=h.new;have z1:=h.tk;have z2:=h.hold;have z3:=h.free;grind
 hold:=by have z0:=h.hold;have z1:=h.tk;grind
 hs:=by have z0:=h.hs;have z1:=h.tk;have z2:=h.hold;grind
 hr:=by have z0:=h.hr;have z1:=h.tk;have z2:=h.hold;grind
 fk:=by have z0:=h.fk;have z1:=h.tk;have z2:=h.hold;grind
 ps:=by have z0:=h.ps;have z1:=h.tk;have z2:=h.hold;grind
 q:=by have z0:=h.q;have z1:=h.tk;have z2:=h.hold;grind
 qn:=h.qn
 pop:=by have z0:=h.pop;have z1:=h.tk;have z2:=h.hold;grind
 tk:=by have z0:=h.tk;have z1:=h.hold;grind
 out:=by have z0:=h.out;have z1:=h.tk;have z2:=h.hold;grind
 tp:=by have z0:=h.tp;have z1:=h.tk;have z2:=h.hold;grind
 kn:=h.kn
 kd:=by have z0:=h.kd;have z1:=h.tk;have z2:=h.hold;grind
 un:=by have z0:=h.un;have z1:=h.tk;have z2:=h.hold;grind
 pr:=h.pr
 jn:=by have z0:=h.jn;have z1:=h.tk;have z2:=h.hold;grind
 k8:=by have z0:=h.k8;have z1:=h.tk;have z2:=h.hold;grind
 SQ:=by have z0:=h.SQ;have z1:=h.tk;have z2:=h.hold;grind
theorem FI.eI(h:v.FI N F)(hi:i<N){x:Nat}{l:List Nat}(hg:v.g i= .none)(hq:v.q i=l++[x]) :
 FI N F {v with q:=bq v.q i l,loc:=bq v.loc x (.pop i),pop:=bq v.pop i (some x)} where
 lC:=h.lC
 RV:=h.RV
 nx:=h.nx
 free:=by have z0:=h.free;have z1:=h.q;grind [List.nodup_append]
 used:=by have z0:=h.used;have z1:=h.q;grind [List.nodup_append]
 new:=h.new
 hold:=by have z0:=h.hold;have z1:=h.q;grind [List.nodup_append]
 hs:=h.hs
 hr:=h.hr
 fk:=by have z0:=h.fk;have z1:=h.q;grind [List.nodup_append]
 ps:=by have z0:=h.ps;have z1:=h.q;grind [List.nodup_append]
 q:=by have z0:=h.q;have z1:=h.qn;grind [List.nodup_append]
 qn:=by have z0:=h.qn;have z1:=h.q;grind [List.nodup_append]
 pop:=by have z0:=h.pop;have z1:=h.q;grind [List.nodup_append]
 tk:=by have z0:=h.tk;have z1:=h.q;grind [List.nodup_append]
 out:=by have z0:=h.out;have z1:=h.q;grind [List.nodup_append]
 tp:=h.tp
 kn:=h.kn
 kd:=by have z0:=h.kd;have z1:=h.q;grind [List.nodup_append]
 un:=by have z0:=h.un;have z1:=h.q;grind [List.nodup_append]
 pr:=h.pr
 jn:=by have z0:=h.jn;have z1:=h.q;grind [List.nodup_append]
 k8:=by have z0:=h.k8;have z1:=h.q;grind [List.nodup_append]
 SQ:=h.SQ
theorem FI.th(h:v.FI N F)(hi:i<N){x:Nat}(hg:v.g i= .none)(hq:v.q i=[x]) :
 FI N F {v with q:=bq v.q i [],loc:=bq v.loc x (.pop i),pop:=bq v.pop i (some x)} where
 lC:=h.lC
 RV:=h.RV
 nx:=h.nx
 free:=by have z0:=h.free;have z1:=h.q;grind
 used:=by have z0:=h.used;have z1:=h.q;grind
 new:=h.new
 hold:=by have z0:=h.hold;have z1:=h.q;grind
 hs:=h.hs
 hr:=h.hr
 fk:=by have z0:=h.fk;have z1:=h.q;grind
 ps:=by have z0:=h.ps;have z1:=h.q;grind
 q:=by have z0:=h.q;have z1:=h.qn;grind
 qn:=by have z0:=h.qn;have z1:=h.q;grind
 pop:=by have z0:=h.pop;have z1:=h.q;grind
 tk:=by have z0:=h.tk;have z1:=h.q;grind
 out:=by have z0:=h.out;have z1:=h.q;grind
 tp:=h.tp
 kn:=h.kn
 kd:=by have z0:=h.kd;have z1:=h.q;grind
 un:=by have z0:=h.un;have z1:=h.q;grind
 pr:=h.pr
 jn:=by have z0:=h.jn;have z1:=h.q;grind
 k8:=by have z0:=h.k8;have z1:=h.q;grind
 SQ:=h.SQ
theorem FI.got(h:v.FI N F)(hi:i<N){x:Nat}(hg:v.g i= .none)(hx:v.pop i=some x) :
 FI N F {v with g:=bq v.g i .start,hold:=bq v.hold i (some x),loc:=bq v.loc x (.held i),pop:=bq v.pop i none} where
 lC:=h.lC
 RV:=h.RV
 nx:=h.nx
 free:=by have z0:=h.free;have z1:=h.pop;grind
 used:=by have z0:=h.used;have z1:=h.pop;grind
 new:=h.new
 hold:=by have z0:=h.hold;have z1:=h.pop;grind
 hs:=by have z0:=h.hs;have z1:=h.pop;grind
 hr:=by have z0:=h.hr;have z1:=h.pop;grind
 fk:=by have z0:=h.fk;have z1:=h.pop;grind
 ps:=by have z0:=h.ps;have z1:=h.pop;grind
 q:=by have z0:=h.q;have z1:=h.pop;grind
 qn:=h.qn
 pop:=by have z0:=h.pop;grind
 tk:=by have z0:=h.tk;have z1:=h.pop;grind
 out:=by have z0:=h.out;have z1:=h.pop;grind
 tp:=by have z0:=h.tp;have z1:=h.pop;grind
 kn:=h.kn
 kd:=by have z0:=h.kd;have z1:=h.pop;grind
 un:=by have z0:=h.un;have z1:=h.pop;grind
 pr:=h.pr
 jn:=by have z0:=h.jn;have z1:=h.pop;grind
 k8:=by have z0:=h.k8;have z1:=h.pop;grind
 SQ:=by have z0:=h.SQ;have z1:=h.pop;have z2:=h.k8;have z3:=h.hold;grind
theorem FI.oX(h:v.FI N F)(hi:i<N){x w:Nat}{l:List Nat}(hw:w<N)(hg:v.g i= .none)(hx:v.q w=x::l) :
 FI N F {v with g:=bq v.g i .start,hold:=bq v.hold i (some x),loc:=bq v.loc x (.held i),q:=bq v.q w l} where
 lC:=h.lC
 RV:=h.RV
 nx:=h.nx
 free:=by have z0:=h.free;have z1:=h.q;grind [List.nodup_cons]
 used:=by have z0:=h.used;have z1:=h.q;grind [List.nodup_cons]
 new:=h.new
 hold:=by have z0:=h.hold;have z1:=h.q;grind [List.nodup_cons]
 hs:=by have z0:=h.hs;have z1:=h.q;grind [List.nodup_cons]
 hr:=by have z0:=h.hr;have z1:=h.q;grind [List.nodup_cons]
 fk:=by have z0:=h.fk;have z1:=h.q;grind [List.nodup_cons]
 ps:=by have z0:=h.ps;have z1:=h.q;grind [List.nodup_cons]
 q:=by have z0:=h.q;have z1:=h.qn;grind [List.nodup_cons]
 qn:=by have z0:=h.qn;have z1:=h.q;grind [List.nodup_cons]
 pop:=by have z0:=h.pop;have z1:=h.q;grind [List.nodup_cons]
 tk:=by have z0:=h.tk;have z1:=h.q;grind [List.nodup_cons]
 out:=by have z0:=h.out;have z1:=h.q;grind [List.nodup_cons]
 tp:=by have z0:=h.tp;have z1:=h.q;grind [List.nodup_cons]
 kn:=h.kn
 kd:=by have z0:=h.kd;have z1:=h.q;grind [List.nodup_cons]
 un:=by have z0:=h.un;have z1:=h.q;grind [List.nodup_cons]
 pr:=h.pr
 jn:=by have z0:=h.jn;have z1:=h.q;grind [List.nodup_cons]
 k8:=by have z0:=h.k8;have z1:=h.q;grind [List.nodup_cons]
 SQ:=by have z0:=h.SQ;have z1:=h.q;have z2:=h.k8;have z3:=h.hold;grind [List.nodup_cons]
end V
def view(s:St):V:=⟨λi=>sig (s.pc i),s.hold,s.loc,λf=>(s.fr f).par,s.nf,s.aR,s.q,s.pop,λf=>s.mem (.join f),λf=>s.mem (.mark f),s.mem .next⟩
theorem gq{α β:Type}[DecidableEq α](f:α->β)(a:α):bq f a (f a)=f:=by
 funext x;simp only[bM];split
 ·next e=>rw[e]
 ·rfl
def jr.CC:jr->Bool
 | .join _ | .mark _ | .next=>true
 | _=>false
structure W where
 v:V
 gH:Nat->Int
 kc:Nat->Nat
 fx:Nat->Int
def jN:Pc->Int
 | .start x=>x
 | _=>0
def wv(s:St):W:=⟨view s,λf=>(s.fr f).gH,λf=>(s.fr f).aR,λi=>jN (s.pc i)⟩
def quiet:Option Ev->Bool
 | none=>true
 | some x=>x.kind==3||x.kind==9||x.kind==10
inductive Tr(C:dH)(i:Nat)(w:W):Option Ev->W->Prop
 | cg (e:Option Ev) (he:quiet e=true):Tr C i w e w
 | full (c:Nat) (hg:w.v.g i= .push c):Tr C i w (ev 11 c 1 0) {w with v:={w.v with g:=bq w.v.g i .full}}
 | start (f:Nat) (hg:w.v.g i= .start) (hf:w.v.hold i=some f):Tr C i w (ev 1 f (w.fx i) (w.v.mark f+1))
  { w with v:={w.v with g:=bq w.v.g i .run,mark:=bq w.v.mark f (w.v.mark f+1)},fx:=bq w.fx i 0}
 | spawn (f:Nat) (hg:w.v.g i= .run) (hf:w.v.hold i=some f) (hn:w.v.next<C.F):Tr C i w none
  { w with v:={w.v with g:=bq w.v.g i (.fork w.v.nf),next:=w.v.next+1,nf:=w.v.nf+1,par:=bq w.v.par w.v.nf f,loc:=bq w.v.loc w.v.nf (.ct i)},gH:=bq w.gH w.v.nf (C.pd (w.gH f) (w.kc f)),kc:=bq (bq w.kc f (w.kc f+1)) w.v.nf 0}
 | mz (hg:w.v.g i= .run) (hn:(C.F:Int)<=w.v.next):Tr C i w (ev 11 (-1) 0 0) {w with v:={w.v with g:=bq w.v.g i .full,next:=w.v.next+1}}
 | fork (c f:Nat) (hg:w.v.g i= .fork c) (hf:w.v.hold i=some f):Tr C i w none
  { w with v:={w.v with g:=bq w.v.g i (.push c),join:=bq w.v.join f (w.v.join f+1),aR:=bq w.v.aR f (c::w.v.aR f)}}
 | push (c f:Nat) (hg:w.v.g i= .push c) (hf:w.v.hold i=some f):Tr C i w (ev 2 c f (w.gH c)) {w with v:={w.v with g:=bq w.v.g i .run,q:=bq w.v.q i (w.v.q i++[c]),loc:=bq w.v.loc c (.yp i)}}
 | wait (f:Nat) (hg:w.v.g i= .run) (hf:w.v.hold i=some f) (hk:0<w.v.join f-1):Tr C i w (ev 4 f 0 0)
  { w with v:={w.v with g:=bq w.v.g i .none,hold:=bq w.v.hold i none,join:=bq w.v.join f (w.v.join f-1),loc:=bq w.v.loc f .waiting}}
 | pass (f:Nat) (hg:w.v.g i= .run) (hf:w.v.hold i=some f) (hk:¬0<w.v.join f-1):Tr C i w none
  { w with v:={w.v with g:=bq w.v.g i .one,join:=bq w.v.join f (w.v.join f-1),loc:=bq w.v.loc f (.Q5 i)}}
 | one (f:Nat) (hg:w.v.g i= .one) (hf:w.v.hold i=some f):Tr C i w (ev 5 f 0 0)
  { w with v:={w.v with g:=bq w.v.g i .run,join:=bq w.v.join f 1,loc:=bq w.v.loc f (.held i)}}
 | Yd (v:Int) (hg:w.v.g i= .run) (hf:w.v.hold i=some 0):Tr C i w (ev 6 0 (-1) v)
  { w with v:={w.v with g:=bq w.v.g i .none,hold:=bq w.v.hold i none,loc:=bq w.v.loc 0 (.fin i)}}
 | ret (f:Nat) (v:Int) (hg:w.v.g i= .run) (hf:w.v.hold i=some f) (h0:f≠0):Tr C i w (ev 6 f (w.v.par f) v)
  { w with v:={w.v with g:=bq w.v.g i (.out (w.v.par f) f),hold:=bq w.v.hold i none,loc:=bq w.v.loc f (.fin i)}}
 | td (p c:Nat) (hg:w.v.g i= .out p c) (hn:w.v.join p-1≠0):Tr C i w none
  { w with v:={w.v with g:=bq w.v.g i .none,join:=bq w.v.join p (w.v.join p-1),aR:=bq w.v.aR p ((w.v.aR p).erase c),loc:=bq w.v.loc c .gone}}
 | tg (p c:Nat) (hg:w.v.g i= .out p c) (hn:w.v.join p-1=0):Tr C i w none
  { w with v:={w.v with g:=bq w.v.g i (.take p c),join:=bq w.v.join p (w.v.join p-1),aR:=bq w.v.aR p ((w.v.aR p).erase c),loc:=bq (bq w.v.loc c .gone) p (.Sq i)}}
 | take (p c:Nat) (hg:w.v.g i= .take p c):Tr C i w (ev 7 p c 0)
  { w with v:={w.v with g:=bq w.v.g i .run,hold:=bq w.v.hold i (some p),join:=bq w.v.join p 1,loc:=bq w.v.loc p (.held i)}}
 | eI (x:Nat) (l:List Nat) (hg:w.v.g i= .none) (hq:w.v.q i=l++[x]):Tr C i w none {w with v:={w.v with q:=bq w.v.q i l,loc:=bq w.v.loc x (.pop i),pop:=bq w.v.pop i (some x)}}
 | th (x:Nat) (hg:w.v.g i= .none) (hq:w.v.q i=[x]):Tr C i w none {w with v:={w.v with q:=bq w.v.q i [],loc:=bq w.v.loc x (.pop i),pop:=bq w.v.pop i (some x)}}
 | got (x:Nat) (hg:w.v.g i= .none) (hx:w.v.pop i=some x):Tr C i w none
  { w with v:={w.v with g:=bq w.v.g i .start,hold:=bq w.v.hold i (some x),loc:=bq w.v.loc x (.held i),pop:=bq w.v.pop i none},fx:=bq w.fx i (-1)}
 | oX (k x:Nat) (l:List Nat) (hk:k<C.N) (qR:k≠i) (hg:w.v.g i= .none) (hx:w.v.q k=x::l):Tr C i w (ev 8 x k 0)
  { w with v:={w.v with g:=bq w.v.g i .start,hold:=bq w.v.hold i (some x),loc:=bq w.v.loc x (.held i),q:=bq w.v.q k l},fx:=bq w.fx i k}
theorem Tr.fi{C:dH}{i:Nat}{w w':W}{e:Option Ev}(t:Tr C i w e w')(hi:i<C.N)(h:w.v.FI C.N C.F):w'.v.FI C.N C.F:=by
 cases t with
 | cg _=>exact h
 | full c hg=>exact h.full hi (by rw[hg];rfl) (by rw[hg];simp) (by rw[hg];simp)
 | start f hg hf=>exact h.start hi hg hf
 | spawn f hg hf hn=>exact h.spawn hi hg hf hn
 | mz hg hn=>exact h.mz hi hg hn
 | fork c f hg hf=>exact h.fork hi hg hf
 | push c f hg hf=>exact h.push hi hg
 | wait f hg hf hk=>exact h.wait hi hg hf hk
 | pass f hg hf hk=>exact h.pass hi hg hf hk
 | one f hg hf=>exact h.one hi hg hf
 | Yd v hg hf=>exact h.Yd hi hg hf
 | ret f v hg hf h0=>exact h.ret hi hg hf h0
 | td p c hg hn=>exact h.td hi hg hn
 | tg p c hg hn=>exact h.tg hi hg hn
 | take p c hg=>exact h.take hi hg
 | eI x l hg hq=>exact h.eI hi hg hq
 | th x hg hq=>exact h.th hi hg hq
 | got x hg hx=>exact h.got hi hg hx
 | oX k x l hk qR hg hx=>exact h.oX hi hk hg hx
theorem iB{C:dH}{i:Nat}{w w' w'':W}{e:Option Ev}(h:w''=w')(t:Tr C i w e w'):Tr C i w e w'':=h▸ t
def oY(x:Fr):Nat×Int×Nat:=(x.par,x.gH,x.aR)
section
variable {C:dH}{s:St}{i:Nat}{N F:Nat}
theorem Ag{s':St}(h0:∀j,sig (s'.pc j)=sig (s.pc j))(hx:∀j,jN (s'.pc j)=jN (s.pc j))(h1:s'.hold=s.hold)(h2:s'.loc=s.loc)(h3:∀f,oY (s'.fr f)=oY (s.fr f))(h4:s'.nf=s.nf)(h5:s'.aR=s.aR)
 (h6:s'.q=s.q) (h7:s'.pop=s.pop) (hm:∀a,a.CC=true->s'.mem a=s.mem a):wv s'=wv s:=by
 have a1:(λf=>(s'.fr f).par)=λf=>(s.fr f).par:=funext λf=>afr (·.1) (h3 f)
 have a2:(λf=>(s'.fr f).gH)=λf=>(s.fr f).gH:=funext λf=>afr (·.2.1) (h3 f)
 have a3:(λf=>(s'.fr f).aR)=λf=>(s.fr f).aR:=funext λf=>afr (·.2.2) (h3 f)
 unfold wv view
 rw[h1,h2,h4,h5,h6,h7,hm .next rfl,funext h0,funext hx,a1,a2,a3,funext (λf=>hm (.join f) rfl),funext (λf=>hm (.mark f) rfl)]
theorem cg{s':St}{p:Pc}{e:Option Ev}(hp:s'.pc=bq s.pc i p)(hs:sig p=sig (s.pc i)/\jN p=jN (s.pc i))(h1:s'.hold=s.hold)(h2:s'.loc=s.loc)(h3:∀f,oY (s'.fr f)=oY (s.fr f))(h4:s'.nf=s.nf)(h5:s'.aR=s.aR)
 (h6:s'.q=s.q) (h7:s'.pop=s.pop) (hm:∀a,a.CC=true->s'.mem a=s.mem a) (he:quiet e=true):Tr C i (wv s) e (wv s'):=by
 refine iB (Ag (λj => ?_) (λj => ?_) h1 h2 h3 h4 h5 h6 h7 hm) (.cg _ he)
 ·rw[hp,bM];split
  ·next e=>rw[e];exact hs.1
  ·rfl
 ·rw[hp,bM];split
  ·next e=>rw[e];exact hs.2
  ·rfl
theorem oZ{s':St}{e:Option Ev}(hp:s'.pc=s.pc)(h1:s'.hold=s.hold)(h2:s'.loc=s.loc)(h3:∀f,oY (s'.fr f)=oY (s.fr f))(h4:s'.nf=s.nf)(h5:s'.aR=s.aR)
 (h6:s'.q=s.q) (h7:s'.pop=s.pop) (hm:∀a,a.CC=true->s'.mem a=s.mem a) (he:quiet e=true):Tr C i (wv s) e (wv s'):=
 iB (Ag (λj=>by rw[hp]) (λj=>by rw[hp]) h1 h2 h3 h4 h5 h6 h7 hm) (.cg _ he)
theorem gZ{a x:jr}{v:Int}(h:a.CC=false):x.CC=true->(s.wr a v).mem x=s.mem x:=λhx=>eJ (by rintro rfl;rw[h]at hx;cases hx)
theorem lD{f:Nat}{x:Fr}(h:oY x=oY (s.fr f))(j:Nat):oY ((s.lay f x).fr j)=oY (s.fr j):=by
 show oY (bq s.fr f x j)=_
 rw[bM];split
 ·next e=>rw[e,h]
 ·rfl
theorem jE(hf:(view s).FI N F)(hi:i<N)(hb:busy (sig (s.pc i))=true) :∃f,s.hold i=some f:=by
 have:=hf.hs i hi hb
 exact Option.ne_none_iff_exists'.1 this
theorem jk{w w':W}(h1:∀j,w.v.g j=w'.v.g j)(h2:∀j,w.v.hold j=w'.v.hold j)(h3:∀j,w.v.loc j=w'.v.loc j)(h4:∀j,w.v.par j=w'.v.par j)(h5:w.v.nf=w'.v.nf)(h6:∀j,w.v.aR j=w'.v.aR j)
 (h7:∀j,w.v.q j=w'.v.q j) (h8:∀j,w.v.pop j=w'.v.pop j) (h9:∀j,w.v.join j=w'.v.join j) (h10:∀j,w.v.mark j=w'.v.mark j) (h11:w.v.next=w'.v.next) (h12:∀j,w.gH j=w'.gH j) (CD:∀j,w.kc j=w'.kc j) (KO:∀j,w.fx j=w'.fx j):w=w':=by
 obtain⟨⟨⟩⟩:=w;obtain⟨⟨⟩⟩:=w'
 simp only[W.mk.injEq,V.mk.injEq]
 exact⟨⟨funext h1,funext h2,funext h3,funext h4,h5,funext h6,funext h7,funext h8,funext h9,funext h10,h11⟩,funext h12,funext CD,funext KO⟩
theorem xh(hf:(view s).FI C.N C.F)(hi:i<C.N)(hp:s.pc i= .run):Tr C i (wv s) (instr C s i).ev (wv (instr C s i).s):=by
 have hg:(view s).g i= .run:=by show sig (s.pc i)=_;rw[hp];rfl
 obtain⟨f,hh⟩:=jE hf hi (by rw[hp];rfl)
 have Ea:(view s).hold i=some f:=hh
 unfold Am.instr;simp only[hh,afk]
 split
 ·exact oZ rfl rfl rfl (lD rfl) rfl rfl rfl rfl (λ_ _=>rfl) rfl
 ·exact oZ rfl rfl rfl (lD rfl) rfl rfl rfl rfl (λ_ _=>rfl) rfl
 ·exact oZ rfl rfl rfl (lD rfl) rfl rfl rfl rfl (λ_ _=>rfl) rfl
 ·exact oZ rfl rfl rfl (lD rfl) rfl rfl rfl rfl (λ_ _=>rfl) rfl
 ·exact oZ rfl rfl rfl (lD (by split<;>rfl)) rfl rfl rfl rfl (λ_ _=>rfl) rfl
 ·exact oZ rfl rfl rfl (lD rfl) rfl rfl rfl rfl (λ_ _=>rfl) rfl
 ·exact oZ rfl rfl rfl (lD rfl) rfl rfl rfl rfl (λ_ _=>rfl) rfl
 ·rename_i sl g c hc
  split
  ·rename_i hn
   refine iB ?_ (Tr.mz hg (by show(C.F:Int)<=s.mem .next;omega))
   apply jk<;>(try intro j)<;>simp only[wv,view,St.wr,St.lay,St.to,St.put,St.holds,St.gy,St.eI,St.ot,St.iM,got,bM,Zi]<;>grind [sig,jN,dQ]
  ·rename_i hn
   refine iB ?_ (Tr.spawn f hg Ea (by show s.mem .next<(C.F:Int);omega))
   apply jk<;>(try intro j)<;>simp only[wv,view,St.wr,St.lay,St.to,St.put,St.holds,St.gy,St.eI,St.ot,St.iM,got,bM,Zi]<;>grind [sig,jN,dQ]
 ·split
  ·rename_i hn
   refine iB ?_ (Tr.wait f hg Ea (by simpa [wv,view]using hn))
   apply jk<;>(try intro j)<;>simp only[wv,view,St.wr,St.lay,St.to,St.put,St.holds,St.gy,St.eI,St.ot,St.iM,got,bM,Zi]<;>grind [sig,jN,dQ]
  ·rename_i hn
   refine iB ?_ (Tr.pass f hg Ea (by simpa [wv,view]using hn))
   apply jk<;>(try intro j)<;>simp only[wv,view,St.wr,St.lay,St.to,St.put,St.holds,St.gy,St.eI,St.ot,St.iM,got,bM,Zi]<;>grind [sig,jN,dQ]
 ·split
  ·rename_i h0
   subst h0
   refine iB ?_ (Tr.Yd _ hg Ea)
   apply jk<;>(try intro j)<;>simp only[wv,view,St.wr,St.lay,St.to,St.put,St.holds,St.gy,St.eI,St.ot,St.iM,got,bM,Zi]<;>grind [sig,jN,dQ]
  ·rename_i h0
   refine iB ?_ (Tr.ret f _ hg Ea h0)
   apply jk<;>(try intro j)<;>simp only[wv,view,St.wr,St.lay,St.to,St.put,St.holds,St.gy,St.eI,St.ot,St.iM,got,bM,Zi]<;>grind [sig,jN,dQ]
theorem oy(hf:(view s).FI C.N C.F)(hd:DT C s)(hi:i<C.N)(d:Int):Tr C i (wv s) (step C s i d).ev (wv (step C s i d).s):=by
 cases hp:s.pc i with
 | nk c =>
  unfold Am.step;rw[hp];simp only
  exact cg rfl (by rw[hp];exact⟨rfl,rfl⟩) rfl rfl (λ_=>rfl) rfl rfl rfl rfl (λ_ _=>rfl) rfl
 | lO c b =>
  unfold Am.step;rw[hp];simp only
  exact cg rfl (by rw[hp];exact⟨rfl,rfl⟩) rfl rfl (λ_=>rfl) rfl rfl rfl rfl (λ_ _=>rfl) rfl
 | iG c b t =>
  unfold Am.step;rw[hp];simp only
  exact cg rfl (by rw[hp];exact⟨rfl,rfl⟩) rfl rfl (λ_=>rfl) rfl rfl rfl rfl (λ_ _=>rfl) rfl
 | oV =>
  unfold Am.step;rw[hp];simp only
  exact cg rfl (by rw[hp];exact⟨rfl,rfl⟩) rfl rfl (λ_=>rfl) rfl rfl rfl rfl (λ_ _=>rfl) rfl
 | RU b =>
  unfold Am.step;rw[hp];simp only
  exact cg rfl (by rw[hp];exact⟨rfl,rfl⟩) rfl rfl (λ_=>rfl) rfl rfl rfl rfl (λ_ _=>rfl) rfl
 | jS b t =>
  unfold Am.step;rw[hp];simp only
  exact cg rfl (by rw[hp];exact⟨rfl,rfl⟩) rfl rfl (λ_=>rfl) rfl rfl rfl rfl (λ_ _=>rfl) rfl
 | gG =>
  unfold Am.step;rw[hp];simp only
  exact cg rfl (by rw[hp];exact⟨rfl,rfl⟩) rfl rfl (λ_=>rfl) rfl rfl rfl rfl (λ_ _=>rfl) rfl
 | gN v t =>
  unfold Am.step;rw[hp];simp only
  exact cg rfl (by rw[hp];exact⟨rfl,rfl⟩) rfl rfl (λ_=>rfl) rfl rfl rfl rfl (λ_ _=>rfl) rfl
 | gp v t g =>
  unfold Am.step;rw[hp];simp only
  exact cg rfl (by rw[hp];exact⟨rfl,rfl⟩) rfl rfl (λ_=>rfl) rfl rfl rfl rfl (λ_ _=>rfl) rfl
 | eZ v t g cc =>
  unfold Am.step;rw[hp];simp only
  exact cg rfl (by rw[hp];exact⟨rfl,rfl⟩) rfl rfl (λ_=>rfl) rfl rfl rfl rfl (λ_ _=>rfl) rfl
 | od j =>
  unfold Am.step;rw[hp];simp only
  exact cg rfl (by rw[hp];exact⟨rfl,rfl⟩) rfl rfl (λ_=>rfl) rfl rfl rfl rfl (λ_ _=>rfl) rfl
 | dZ c b t cc n =>
  unfold Am.step;rw[hp];simp only
  exact cg rfl (by rw[hp];exact⟨rfl,rfl⟩) rfl rfl (λ_=>rfl) rfl rfl rfl rfl (λ_ _=>rfl) rfl
 | fH c b t cc =>
  unfold Am.step;rw[hp];simp only
  exact cg rfl (by rw[hp];exact⟨rfl,rfl⟩) rfl rfl (λ_=>rfl) rfl rfl rfl rfl (λ_=>gZ rfl) rfl
 | fI c b t cc =>
  unfold Am.step;rw[hp];simp only
  exact cg rfl (by rw[hp];exact⟨rfl,rfl⟩) rfl rfl (λ_=>rfl) rfl rfl rfl rfl (λ_=>gZ rfl) rfl
 | ef c b cc =>
  unfold Am.step;rw[hp];simp only
  exact cg rfl (by rw[hp];exact⟨rfl,rfl⟩) rfl rfl (λ_=>rfl) rfl rfl rfl rfl (λ_=>gZ rfl) rfl
 | gM b =>
  unfold Am.step;rw[hp];simp only
  exact cg rfl (by rw[hp];exact⟨rfl,rfl⟩) rfl rfl (λ_=>rfl) rfl rfl rfl rfl (λ_=>gZ rfl) rfl
 | flag =>
  unfold Am.step;rw[hp];simp only
  exact cg rfl (by rw[hp];exact⟨rfl,rfl⟩) rfl rfl (λ_=>rfl) rfl rfl rfl rfl (λ_=>gZ rfl) rfl
 | sleep =>
  unfold Am.step;rw[hp];simp only
  exact cg rfl (by rw[hp];exact⟨rfl,rfl⟩) rfl rfl (λ_=>rfl) rfl rfl rfl rfl (λ_=>gZ rfl) rfl
 | j5 j =>
  unfold Am.step;rw[hp];simp only
  exact cg rfl (by rw[hp];exact⟨rfl,rfl⟩) rfl rfl (λ_=>rfl) rfl rfl rfl rfl (λ_=>gZ rfl) rfl
 | grow c b t cc =>
  unfold Am.step;rw[hp];simp only
  exact cg rfl (by rw[hp];exact⟨rfl,rfl⟩) rfl rfl (λ_=>rfl) rfl rfl rfl rfl (λa ha=>by cases a<;>first | rfl | (simp[jr.CC]at ha)) rfl
 | ew c b t cc n x =>
  unfold Am.step;rw[hp];simp only
  refine cg rfl (by rw[hp];split<;>exact⟨rfl,rfl⟩) rfl rfl (λ_=>rfl) rfl rfl rfl rfl (λ_=>gZ rfl) rfl
 | pG =>
  unfold Am.step;rw[hp];simp only
  refine cg rfl (by rw[hp];split<;>exact⟨rfl,rfl⟩) rfl rfl (λ_=>rfl) rfl rfl rfl rfl (λ_ _=>rfl) rfl
 | ji j =>
  unfold Am.step;rw[hp];simp only
  split
  ·exact cg rfl (by rw[hp];exact⟨rfl,rfl⟩) rfl rfl (λ_=>rfl) rfl rfl rfl rfl (λ_=>gZ rfl) rfl
  ·exact cg rfl (by rw[hp];split<;>exact⟨rfl,rfl⟩) rfl rfl (λ_=>rfl) rfl rfl rfl rfl (λ_ _=>rfl) rfl
 | gl t =>
  unfold Am.step;rw[hp];simp only
  exact cg rfl (by rw[hp];split<;>exact⟨rfl,rfl⟩) rfl rfl (λ_=>rfl) rfl rfl rfl rfl (λ_=>gZ rfl) rfl
 | jT v t =>
  unfold Am.step;rw[hp];simp only
  split<;>exact cg rfl (by rw[hp];exact⟨rfl,rfl⟩) rfl rfl (λ_=>rfl) rfl rfl rfl rfl (λ_ _=>rfl) rfl
 | nV =>
  unfold Am.step;rw[hp];simp only
  split
  ·exact cg rfl (by rw[hp];exact⟨rfl,rfl⟩) rfl rfl (λ_=>rfl) rfl rfl rfl rfl (λ_ _=>rfl) rfl
  ·exact cg rfl (by rw[hp];split<;>exact⟨rfl,rfl⟩) rfl rfl (λ_=>rfl) rfl rfl rfl rfl (λ_ _=>rfl) rfl
 | jM =>
  unfold Am.step;rw[hp];simp only[looking]
  split
  ·exact cg rfl (by rw[hp];exact⟨rfl,rfl⟩) rfl rfl (λ_=>rfl) rfl rfl rfl rfl (λ_ _=>rfl) rfl
  ·split<;>exact cg rfl (by rw[hp];exact⟨rfl,rfl⟩) rfl rfl (λ_=>rfl) rfl rfl rfl rfl (λ_ _=>rfl) rfl
 | nl j t =>
  unfold Am.step;rw[hp];simp only[looking]
  split
  ·exact cg rfl (by rw[hp];exact⟨rfl,rfl⟩) rfl rfl (λ_=>rfl) rfl rfl rfl rfl (λ_ _=>rfl) rfl
  ·split<;>exact cg rfl (by rw[hp];exact⟨rfl,rfl⟩) rfl rfl (λ_=>rfl) rfl rfl rfl rfl (λ_ _=>rfl) rfl
 | parked =>
  unfold Am.step;rw[hp];simp only
  split
  ·exact .cg none rfl
  ·exact cg rfl (by rw[hp];split<;>exact⟨rfl,rfl⟩) rfl rfl (λ_=>rfl) rfl rfl rfl rfl (λ_ _=>rfl) rfl
 | back b =>
  unfold Am.step;rw[hp];simp only[nn]
  split
  ·exact cg rfl (by rw[hp];exact⟨rfl,rfl⟩) rfl rfl (λ_=>rfl) rfl rfl rfl rfl (λ_=>gZ rfl) rfl
  ·split
   ·exact cg rfl (by rw[hp];exact⟨rfl,rfl⟩) rfl rfl (λ_=>rfl) rfl rfl rfl rfl (λ_ _=>rfl) rfl
   ·exact cg rfl (by rw[hp];split<;>exact⟨rfl,rfl⟩) rfl rfl (λ_=>rfl) rfl rfl rfl rfl (λ_ _=>rfl) rfl
 | j6 b =>
  unfold Am.step;rw[hp];simp only[nn]
  split
  ·exact cg rfl (by rw[hp];exact⟨rfl,rfl⟩) rfl rfl (λ_=>rfl) rfl rfl rfl rfl (λ_=>gZ rfl) rfl
  ·exact cg rfl (by rw[hp];split<;>exact⟨rfl,rfl⟩) rfl rfl (λ_=>rfl) rfl rfl rfl rfl (λ_=>gZ rfl) rfl
 | done =>
  unfold Am.step;rw[hp];simp only[fK]
  split<;>exact cg rfl (by rw[hp];exact⟨rfl,rfl⟩) rfl rfl (λ_=>rfl) rfl rfl rfl rfl (λ_=>gZ rfl) rfl
 | tell j =>
  unfold Am.step;rw[hp];simp only[fK]
  split
  ·exact cg rfl (by rw[hp];exact⟨rfl,rfl⟩) rfl rfl (λ_=>rfl) rfl rfl rfl rfl (λ_=>gZ rfl) rfl
  ·split<;>exact cg rfl (by rw[hp];exact⟨rfl,rfl⟩) rfl rfl (λ_=>rfl) rfl rfl rfl rfl (λ_ _=>rfl) rfl
 | kE j =>
  unfold Am.step;rw[hp];simp only[fK]
  split<;>exact cg rfl (by rw[hp];exact⟨rfl,rfl⟩) rfl rfl (λ_=>rfl) rfl rfl rfl rfl (λ_=>gZ rfl) rfl
 | iH c b t =>
  have hg:(view s).g i= .push c:=by show sig (s.pc i)=_;rw[hp];rfl
  unfold Am.step;rw[hp];simp only
  split
  ·exact cg rfl (by rw[hp];exact⟨rfl,rfl⟩) rfl rfl (λ_=>rfl) rfl rfl rfl rfl (λ_ _=>rfl) rfl
  ·split
   ·refine iB ?_ (Tr.full c hg)
    apply jk<;>(try intro j)<;>simp only[wv,view,St.wr,St.lay,St.to,St.put,St.holds,St.gy,St.eI,St.ot,St.iM,got,bM,Zi]<;>grind [sig,jN,dQ]
   ·exact cg rfl (by rw[hp];exact⟨rfl,rfl⟩) rfl rfl (λ_=>rfl) rfl rfl rfl rfl (λ_ _=>rfl) rfl
 | halted=>unfold Am.step;rw[hp];exact .cg none rfl
 | full=>unfold Am.step;rw[hp];exact .cg none rfl
 | run=>unfold Am.step;rw[hp];exact xh hf hi hp
 | start x =>
  have hg:(view s).g i= .start:=by show sig (s.pc i)=_;rw[hp];rfl
  obtain⟨f,hh⟩:=jE hf hi (by rw[hp];rfl)
  unfold Am.step;rw[hp];simp only[hh,afk]
  have hx:x=(wv s).fx i:=by show x=jN (s.pc i);rw[hp];rfl
  rw[hx]
  refine iB ?_ (Tr.start f hg hh)
  apply jk<;>(try intro j)<;>simp only[wv,view,St.wr,St.lay,St.to,St.put,St.holds,St.gy,St.eI,St.ot,St.iM,got,bM,Zi]<;>grind [sig,jN,dQ]
 | fork c =>
  have hg:(view s).g i= .fork c:=by show sig (s.pc i)=_;rw[hp];rfl
  obtain⟨f,hh⟩:=jE hf hi (by rw[hp];rfl)
  unfold Am.step;rw[hp];simp only[hh,afk]
  refine iB ?_ (Tr.fork c f hg hh)
  apply jk<;>(try intro j)<;>simp only[wv,view,St.wr,St.lay,St.to,St.put,St.holds,St.gy,St.eI,St.ot,St.iM,got,bM,Zi]<;>grind [sig,jN,dQ]
 | iF =>
  have hg:(view s).g i= .one:=by show sig (s.pc i)=_;rw[hp];rfl
  obtain⟨f,hh⟩:=jE hf hi (by rw[hp];rfl)
  unfold Am.step;rw[hp];simp only[hh,afk]
  refine iB ?_ (Tr.one f hg hh)
  apply jk<;>(try intro j)<;>simp only[wv,view,St.wr,St.lay,St.to,St.put,St.holds,St.gy,St.eI,St.ot,St.iM,got,bM,Zi]<;>grind [sig,jN,dQ]
 | out p c =>
  have hg:(view s).g i= .out p c:=by show sig (s.pc i)=_;rw[hp];rfl
  unfold Am.step;rw[hp];simp only
  split
  ·rename_i hn
   refine iB ?_ (Tr.tg p c hg hn)
   apply jk<;>(try intro j)<;>simp only[wv,view,St.wr,St.lay,St.to,St.put,St.holds,St.gy,St.eI,St.ot,St.iM,got,bM,Zi]<;>grind [sig,jN,dQ]
  ·rename_i hn
   refine iB ?_ (Tr.td p c hg hn)
   apply jk<;>(try intro j)<;>simp only[wv,view,St.wr,St.lay,St.to,St.put,St.holds,St.gy,St.eI,St.ot,St.iM,got,bM,Zi]<;>grind [sig,jN,dQ]
 | take p c =>
  have hg:(view s).g i= .take p c:=by show sig (s.pc i)=_;rw[hp];rfl
  unfold Am.step;rw[hp];simp only
  refine iB ?_ (Tr.take p c hg)
  apply jk<;>(try intro j)<;>simp only[wv,view,St.wr,St.lay,St.to,St.put,St.holds,St.gy,St.eI,St.ot,St.iM,got,bM,Zi]<;>grind [sig,jN,dQ]
 | gS c b =>
  have hg:(view s).g i= .push c:=by show sig (s.pc i)=_;rw[hp];rfl
  obtain⟨f,hh⟩:=jE hf hi (by rw[hp];rfl)
  unfold Am.step;rw[hp];simp only[hh,afk]
  refine iB ?_ (Tr.push c f hg hh)
  apply jk<;>(try intro j)<;>simp only[wv,view,St.wr,St.lay,St.to,St.put,St.holds,St.gy,St.eI,St.ot,St.iM,got,bM,Zi]<;>grind [sig,jN,dQ]
 | nU b =>
  have hg:(view s).g i= .none:=by show sig (s.pc i)=_;rw[hp];rfl
  have P:=(hd.1 i hi).ph
  unfold gz at P;rw[hp]at P;simp only at P
  unfold Am.step;rw[hp];simp only
  split
  ·rename_i hlt
   have hne:s.q i≠[]:=by
    intro e;simp only[St.L,St.T,e,afY]at P;omega
   have hq:s.q i=(s.q i).dropLast++[(s.q i).getLastD 0]:=by
    rw[List.getLastD_eq_getLast?,List.getLast?_eq_some_getLast hne];exact(List.dropLast_concat_getLast hne).symm
   refine iB ?_ (Tr.eI ((s.q i).getLastD 0) ((s.q i).dropLast) hg hq)
   apply jk<;>(try intro j)<;>simp only[wv,view,St.wr,St.lay,St.to,St.put,St.holds,St.gy,St.eI,St.ot,St.iM,got,bM,Zi]<;>grind [sig,jN,dQ]
  ·split<;>exact cg rfl (by rw[hp];exact⟨rfl,rfl⟩) rfl rfl (λ_=>rfl) rfl rfl rfl rfl (λ_ _=>rfl) rfl
 | ij b t cc =>
  have hg:(view s).g i= .none:=by show sig (s.pc i)=_;rw[hp];rfl
  have P:=(hd.1 i hi).ph
  unfold gz at P;rw[hp]at P;simp only at P
  unfold Am.step;rw[hp];simp only
  split
  ·rename_i hlt
   obtain⟨x,hx,he⟩:=(P.1.2.2.2.1 hlt).2.2
   rw[<-P.2]at he
   rw[he]
   refine iB ?_ (Tr.got x hg hx)
   apply jk<;>(try intro j)<;>simp only[wv,view,St.wr,St.lay,St.to,St.put,St.holds,St.gy,St.eI,St.ot,St.iM,got,bM,Zi]<;>grind [sig,jN,dQ]
  ·exact cg rfl (by rw[hp];exact⟨rfl,rfl⟩) rfl rfl (λ_=>rfl) rfl rfl rfl rfl (λ_ _=>rfl) rfl
 | jA b t x =>
  have hg:(view s).g i= .none:=by show sig (s.pc i)=_;rw[hp];rfl
  have P:=(hd.1 i hi).ph
  unfold gz at P;rw[hp]at P;simp only at P
  unfold Am.step;rw[hp];simp only
  split
  ·rename_i ht
   have hq:=(P.2.2.2.2.1 ht).1
   refine iB ?_ (Tr.th x.toNat hg hq)
   apply jk<;>(try intro j)<;>simp only[wv,view,St.wr,St.lay,St.to,St.put,St.holds,St.gy,St.eI,St.ot,St.iM,got,bM,Zi]<;>grind [sig,jN,dQ]
  ·exact cg rfl (by rw[hp];exact⟨rfl,rfl⟩) rfl rfl (λ_=>rfl) rfl rfl rfl rfl (λ_ _=>rfl) rfl
 | iL t x nM =>
  have hg:(view s).g i= .none:=by show sig (s.pc i)=_;rw[hp];rfl
  have P:=(hd.1 i hi).ph
  unfold gz at P;rw[hp]at P;simp only at P
  unfold Am.step;rw[hp];simp only
  split
  ·rename_i hw
   refine iB ?_ (Tr.got x.toNat hg (P.2.2.2 hw).1)
   apply jk<;>(try intro j)<;>simp only[wv,view,St.wr,St.lay,St.to,St.put,St.holds,St.gy,St.eI,St.ot,St.iM,got,bM,Zi]<;>grind [sig,jN,dQ]
  ·exact cg rfl (by rw[hp];split<;>exact⟨rfl,rfl⟩) rfl rfl (λ_=>rfl) rfl rfl rfl rfl (λ_=>gZ rfl) rfl
 | fJ v t x =>
  have hg:(view s).g i= .none:=by show sig (s.pc i)=_;rw[hp];rfl
  have HT:=hd.2 i hi
  unfold Th at HT;rw[hp]at HT;simp only at HT
  unfold Am.step;rw[hp];simp only
  split
  ·rename_i ht
   obtain⟨y,l,hq,hx⟩:=HT.2.2.2 ht.symm
   subst hx
   refine iB ?_ (Tr.oX v y l HT.1 HT.2.1 hg hq)
   apply jk<;>(try intro j)<;>simp only[wv,view,St.wr,St.lay,St.to,St.put,St.holds,St.gy,St.eI,St.ot,St.iM,got,bM,Zi]<;>grind [sig,jN,dQ]
  ·exact cg rfl (by rw[hp];exact⟨rfl,rfl⟩) rfl rfl (λ_=>rfl) rfl rfl rfl rfl (λ_ _=>rfl) rfl
theorem FI.step(hf:(view s).FI C.N C.F)(hd:DT C s)(hi:i<C.N)(d:Int):(view (step C s i d).s).FI C.N C.F:=(oy hf hd hi d).fi hi hf
end
def xj(C:dH)(g a:Nat):Prop:=
 match C.code g a with
 | .const x _=>x<C.bK g/\a+1<C.len g
 | .gH x=>x<C.bK g/\a+1<C.len g
 | .move x y=>x<C.bK g/\y<C.bK g/\a+1<C.len g
 | .arith op x y z=>x<C.bK g/\y<C.bK g/\z<C.bK g/\a+1<C.len g
 | .jump t=>t<C.len g
 | .branch x t=>x<C.bK g/\t<C.len g/\a+1<C.len g
 | .spawn s f c=>s<8/\f<C.Ae/\(C.params f=0∨c+C.params f<=C.bK g)/\a+1<C.len g
 | .sync=>a+1<C.len g
 | .load x s=>x<C.bK g/\s<8/\a+1<C.len g
 | .ret x=>x<C.bK g
structure dH.OK(C:dH):Prop where
 n1:1<=C.N
 n64:C.N<=64
 f1:1<=C.F
 f4:C.F<=4096
 c1:1<=C.first
 cm:C.first<=C.most
 m4:C.most<=4096
 fn0:0<C.Ae
 BJ:∀g,g<C.Ae->0<C.len g
 qD:∀g,g<C.Ae->C.params g<=C.bK g/\C.bK g<=16
 ins:∀g,g<C.Ae->∀a,a<C.len g->xj C g a
def live:Loc->Bool
 | .fin _ | .gone=>false
 | _=>true
def Ju(C:dH)(x:Fr)(l:Loc):Prop:=x.fn<C.Ae/\x.slot<8/\(live l=true->x.ag<C.len x.fn)
def FR(C:dH)(s:St):Prop:=∀f,f<s.nf->Ju C (s.fr f) (s.loc f)
section
variable {C:dH}{s:St}{i:Nat}
theorem FR.cg{s':St}(h:FR C s)(h1:s'.nf=s.nf)(h2:s'.fr=s.fr)(h3:s'.loc=s.loc):FR C s':=by
 intro f hf;rw[h2,h3];exact h f (h1▸ hf)
theorem FR.put{s':St}{f:Nat}{l:Loc}(h:FR C s)(h1:s'.nf=s.nf)(h2:s'.fr=s.fr)(h3:s'.loc=bq s.loc f l)(hl:live l=true->live (s.loc f)=true):FR C s':=by
 intro g hg;rw[h2,h3,bM];have:=h g (h1▸ hg)
 split
 ·next e=>subst e;exact⟨this.1,this.2.1,λhh=>this.2.2 (hl hh)⟩
 ·exact this
theorem FR.lay{s':St}{f:Nat}{x:Fr}(h:FR C s)(h1:s'.nf=s.nf)(h2:s'.fr=bq s.fr f x)(h3:s'.loc=s.loc)(hx:f<s.nf->Ju C x (s.loc f)):FR C s':=by
 intro g hg;rw[h2,h3,bM];have wF:=h1▸ hg
 split
 ·next e=>subst e;exact hx wF
 ·exact h g wF
theorem nr(hf:(view s).FI C.N C.F)(hi:i<C.N){f:Nat}(hh:s.hold i=some f):live (s.loc f)=true/\f<s.nf:=by
 have a:=hf.hold i f hi hh
 have e:s.loc f= .Q5 i∨s.loc f= .held i:=a.elim (λa=>.inl a.2) (λa=>.inr a.2)
 refine⟨by rcases e with e | e<;>rw[e]<;>rfl,?_⟩
 rcases agl f s.nf with h | h
 ·exact h
 ·have:=hf.free f h;change s.loc f=_ at this;rw[this]at e;rcases e with e | e<;>cases e
theorem FR.instr(hC:C.OK)(h:FR C s)(hf:(view s).FI C.N C.F)(hi:i<C.N)(hp:s.pc i= .run):FR C (instr C s i).s:=by
 obtain⟨f,hh⟩:=jE hf hi (by rw[hp];rfl)
 obtain⟨hl,hn⟩:=nr hf hi hh
 obtain⟨a1,a2,a3⟩:=h f hn
 have a3:=a3 hl
 have ok:=hC.ins _ a1 _ a3
 unfold xj at ok
 unfold Am.instr;simp only[hh,afk]
 split<;>rename_i hc<;>rw[hc]at ok<;>simp only at ok
 ·exact h.lay rfl rfl rfl (λ_=>⟨a1,a2,λ_=>ok.2⟩)
 ·exact h.lay rfl rfl rfl (λ_=>⟨a1,a2,λ_=>ok.2.2⟩)
 ·exact h.lay rfl rfl rfl (λ_=>⟨a1,a2,λ_=>ok.2.2.2⟩)
 ·exact h.lay rfl rfl rfl (λ_=>⟨a1,a2,λ_=>ok⟩)
 ·exact h.lay rfl rfl rfl (λ_=>by
   split
   ·exact⟨a1,a2,λ_=>ok.2.1⟩
   ·exact⟨a1,a2,λ_=>ok.2.2⟩)
 ·exact h.lay rfl rfl rfl (λ_=>⟨a1,a2,λ_=>ok.2⟩)
 ·exact h.lay rfl rfl rfl (λ_=>⟨a1,a2,λ_=>ok.2.2⟩)
 ·split
  ·exact h.lay rfl rfl rfl (λ_=>⟨a1,a2,λ_=>ok.2.2.2⟩)
  ·intro g hg
   simp only[St.wr,St.lay,St.to,St.put,bM]
   split
   ·next e=>subst e;exact⟨ok.2.1,ok.1,λ_=>hC.BJ _ ok.2.1⟩
   ·next e =>
    have wF:g<s.nf:=by have:g<s.nf+1:=hg;omega
    split
    ·next e=>subst e;exact⟨a1,a2,λ_=>ok.2.2.2⟩
    ·exact h g wF
 ·split
  ·intro g hg
   simp only[St.wr,St.lay,St.to,St.put,St.holds,bM]
   split
   ·next e=>exact⟨a1,a2,λ_=>ok⟩
   ·exact h g hg
  ·intro g hg
   simp only[St.wr,St.lay,St.to,St.put,St.holds,bM]
   split
   ·next e=>exact⟨a1,a2,λ_=>ok⟩
   ·exact h g hg
 ·split
  ·next e0 =>
   subst e0
   intro g hg
   simp only[St.wr,St.lay,St.to,St.put,St.holds,bM]
   split
   ·next e=>exact⟨a1,a2,λe=>by cases e⟩
   ·exact h g hg
  ·intro g hg
   simp only[St.wr,St.lay,St.to,St.put,St.holds,bM]
   split
   ·next e=>exact⟨a1,a2,λe=>by cases e⟩
   ·exact h g hg
theorem FR.step(hC:C.OK)(h:FR C s)(hf:(view s).FI C.N C.F)(hd:DT C s)(hi:i<C.N)(d:Int):FR C (step C s i d).s:=by
 cases hp:s.pc i with
 | run=>unfold Am.step;rw[hp];exact FR.instr hC h hf hi hp
 | iF =>
  obtain⟨f,hh⟩:=jE hf hi (by rw[hp];rfl)
  unfold Am.step;rw[hp];simp only[hh,afk]
  exact h.put rfl rfl rfl (λ_=>(nr hf hi hh).1)
 | out p c =>
  have hg:(view s).g i= .out p c:=by show sig (s.pc i)=_;rw[hp];rfl
  unfold Am.step;rw[hp];simp only
  split
  ·rename_i hn
   have hw:s.loc p= .waiting:=(hf.cT hi hg hn).1
   have h1:FR C (s.put c .gone):=h.put rfl rfl rfl (λe=>by cases e)
   refine FR.put (f:=p) (l:=.Sq i) h1 rfl rfl rfl (λ_ => ?_)
   show live (bq s.loc c .gone p)=true
   rw[aI (hf.cT hi hg hn).2.2,hw];rfl
  ·exact h.put rfl rfl rfl (λe=>by cases e)
 | take p c =>
  have hg:(view s).g i= .take p c:=by show sig (s.pc i)=_;rw[hp];rfl
  unfold Am.step;rw[hp];simp only
  exact h.put rfl rfl rfl (λ_=>by rw[show s.loc p= .Sq i from hf.tk i p c hi hg];rfl)
 | gS c b =>
  have hg:(view s).g i= .push c:=by show sig (s.pc i)=_;rw[hp];rfl
  unfold Am.step;rw[hp];simp only
  exact h.put rfl rfl rfl (λ_=>by rw[show s.loc c= .ct i from(hf.ps i c hi hg).2.1];rfl)
 | nU b =>
  have P:=(hd.1 i hi).ph
  unfold gz at P;rw[hp]at P;simp only at P
  unfold Am.step;rw[hp];simp only
  split
  ·rename_i hlt
   have hne:s.q i≠[]:=by
    intro e;simp only[St.L,St.T,e,afY]at P;omega
   have hm:(s.q i).getLastD 0∈s.q i:=by
    rw[List.getLastD_eq_getLast?,List.getLast?_eq_some_getLast hne];exact List.getLast_mem hne
   exact h.put rfl rfl rfl (λ_=>by rw[show s.loc _= .yp i from(hf.q i _ hi hm).2];rfl)
  ·split<;>exact h.cg rfl rfl rfl
 | ij b t cc =>
  have P:=(hd.1 i hi).ph
  unfold gz at P;rw[hp]at P;simp only at P
  unfold Am.step;rw[hp];simp only
  split
  ·rename_i hlt
   obtain⟨x,hx,he⟩:=(P.1.2.2.2.1 hlt).2.2
   rw[<-P.2]at he
   rw[he]
   refine h.put (f:=x) (l:=.held i) rfl rfl (by simp only[got,St.put,St.eI,St.to,St.holds,Zi]) (λ_ => ?_)
   rw[show s.loc x= .pop i from(hf.pop i x hi hx).2];rfl
  ·exact h.cg rfl rfl rfl
 | jA b t x =>
  have P:=(hd.1 i hi).ph
  unfold gz at P;rw[hp]at P;simp only at P
  unfold Am.step;rw[hp];simp only
  split
  ·rename_i ht
   have hq:=(P.2.2.2.2.1 ht).1
   exact h.put rfl rfl rfl (λ_=>by rw[show s.loc x.toNat= .yp i from(hf.q i _ hi (by show x.toNat∈s.q i;rw[hq];simp)).2];rfl)
  ·exact h.cg rfl rfl rfl
 | iL t x nM =>
  have P:=(hd.1 i hi).ph
  unfold gz at P;rw[hp]at P;simp only at P
  unfold Am.step;rw[hp];simp only
  split
  ·rename_i hw
   exact h.put (f:=x.toNat) (l:=.held i) rfl rfl rfl (λ_=>by rw[show s.loc x.toNat= .pop i from(hf.pop i _ hi (P.2.2.2 hw).1).2];rfl)
  ·exact h.cg rfl rfl rfl
 | fJ v t x =>
  have HT:=hd.2 i hi
  unfold Th at HT;rw[hp]at HT;simp only at HT
  unfold Am.step;rw[hp];simp only
  split
  ·rename_i ht
   obtain⟨y,l,hq,hx⟩:=HT.2.2.2 ht.symm
   exact h.put (f:=x.toNat) (l:=.held i) rfl rfl rfl (λ_=>by rw[show s.loc x.toNat= .yp v from(hf.q v _ HT.1 (by show x.toNat∈s.q v;rw[hq,hx];simp)).2];rfl)
  ·exact h.cg rfl rfl rfl
 | _ =>
  unfold Am.step;rw[hp];simp only[fK,looking,nn]
  repeat' split
  all_goals exact h.cg rfl rfl rfl
end
def js(C:dH):Nat->Nat
 | 0=>C.first
 | g+1=>min (2*js C g) C.most
def dJ:Pc->Bool
 | .fH .. | .dZ .. | .ew .. | .fI .. => true
 | _=>false
def gen(s:St)(j:Nat):Nat:=s.cur j+(if dJ (s.pc j)then 1 else 0)
def tot(C:dH):Nat->Nat
 | 0=>0
 | g+1=>tot C g+1+js C (g+1)
def S0(C:dH):Nat:=4+10*C.F+C.N+C.N*(4+C.first)
def jU(C:dH)(j:Nat):Nat:=4+10*C.F+C.N+j*(4+C.first)
def nY(f:Nat->Nat):Nat->Nat
 | 0=>0
 | n+1=>nY f n+f n
theorem mX{f g:Nat->Nat}:∀{n:Nat},(∀j,j<n->f j=g j)->nY f n=nY g n
 | 0,_=>rfl
 | n+1,h=>by simp only[nY];rw[mX (λj hj=>h j (by omega)),h n (by omega)]
theorem rR{f g:Nat->Nat}{i k:Nat}:∀{n:Nat},i<n->(∀j,j≠i->g j=f j)->g i=f i+k->nY g n=nY f n+k
 | n+1,hi,h,e=>by
  simp only[nY]
  by_cases hn:i=n
  ·subst hn;rw[mX (f:=g) (g:=f) (λj hj=>h j (by omega)),e];omega
  ·rw[rR (n:=n) (by omega) h e,h n (by omega)];omega
theorem uF{f:Nat->Nat}{k:Nat}:∀{n:Nat},(∀j,j<n->f j<=k)->nY f n<=n*k
 | 0,_=>by simp[nY]
 | n+1,h=>by simp only[nY];have:=uF (n:=n) (λj hj=>h j (by omega));have:=h n (by omega);rw[agm];omega
theorem lE(C:dH)(g:Nat):cW C (js C g)=(js C (g+1):Int):=by
 unfold cW;simp only[js];split<;>omega
theorem oz{C:dH}(h:C.OK):∀g,1<=js C g
 | 0=>h.c1
 | g+1=>by have:=oz h g;have:=h.c1;have:=h.cm;simp only[js];omega
theorem tj{C:dH}(h:C.OK):∀g,js C g<=C.most
 | 0=>h.cm
 | g+1=>by simp only[js];omega
structure SZ(C:dH)(s:St):Prop where
 cap:∀j,j<C.N->∀g,g<=s.cur j->s.mem (.cap j g)=js C g
 xk:∀j,j<C.N->s.base j 0=jU C j+3
 size:s.size=S0 C+nY (λj=>tot C (gen s j)) C.N
 bs:∀j,j<C.N->∀g,1<=g->g<=gen s j->(S0 C:Int)<=s.base j g/\s.base j g+1+js C g<=s.size
 dj:∀j j' g g',j<C.N->j'<C.N->1<=g->1<=g'->g<=gen s j->g'<=gen s j'->(j≠j'∨g≠g')->s.base j g+1+js C g<=s.base j' g'∨s.base j' g'+1+js C g'<=s.base j g
 gm:∀j,j<C.N->∀g,g<gen s j->js C g<C.most
section
variable {C:dH}{s:St}{i:Nat}
theorem SZ.of{s':St}(h:SZ C s)(h1:s'.cur=s.cur)(h2:∀j,dJ (s'.pc j)=dJ (s.pc j))(h3:s'.base=s.base)(h4:s'.size=s.size)
 (h5:∀j g,g<=s.cur j->s'.mem (.cap j g)=s.mem (.cap j g)):SZ C s':=by
 obtain⟨a1,a2,a3,a4,a5,a6⟩:=h
 have hg:gen s'=gen s:=by funext j;unfold gen;rw[h1,h2]
 exact⟨λj hj g ZB=>by rw[h1]at ZB;rw[h5 j g ZB];exact a1 j hj g ZB,by rw[h3];exact a2,by rw[h4,hg];exact a3,by rw[h3,h4,hg];exact a4,by rw[h3,hg];exact a5,by rw[hg];exact a6⟩
def jr.uG:jr->Bool
 | .cap .. => true
 | _=>false
theorem rS{s':St}{p:Pc}(h:s'.pc=bq s.pc i p)(hp:dJ p=dJ (s.pc i))(j:Nat):dJ (s'.pc j)=dJ (s.pc j):=by
 rw[h,bM];split
 ·next e=>rw[e,hp]
 ·rfl
theorem SZ.cg{s':St}{p:Pc}(h:SZ C s)(hp:s'.pc=bq s.pc i p)(hg:dJ p=dJ (s.pc i))(h1:s'.cur=s.cur)(h3:s'.base=s.base)(h4:s'.size=s.size)
 (hm:∀a,a.uG=true->s'.mem a=s.mem a):SZ C s':=
 h.of h1 (rS hp hg) h3 h4 (λ_ _ _=>hm _ rfl)
theorem jV{a x:jr}{v:Int}(h:a.uG=false):x.uG=true->(s.wr a v).mem x=s.mem x:=λhx=>eJ (by rintro rfl;rw[h]at hx;cases hx)
theorem SZ.same{s':St}(h:SZ C s)(hp:s'.pc=s.pc)(h1:s'.cur=s.cur)(h3:s'.base=s.base)(h4:s'.size=s.size)
 (hm:∀a,a.uG=true->s'.mem a=s.mem a):SZ C s':=
 h.of h1 (λj=>by rw[hp]) h3 h4 (λ_ _ _=>hm _ rfl)
theorem SZ.instr(h:SZ C s)(hp:s.pc i= .run):SZ C (instr C s i).s:=by
 unfold Am.instr;simp only
 split
 ·exact h.same rfl rfl rfl rfl (λ_ _=>rfl)
 ·exact h.same rfl rfl rfl rfl (λ_ _=>rfl)
 ·exact h.same rfl rfl rfl rfl (λ_ _=>rfl)
 ·exact h.same rfl rfl rfl rfl (λ_ _=>rfl)
 ·exact h.same rfl rfl rfl rfl (λ_ _=>rfl)
 ·exact h.same rfl rfl rfl rfl (λ_ _=>rfl)
 ·exact h.same rfl rfl rfl rfl (λ_ _=>rfl)
 ·split<;>exact h.cg rfl (by rw[hp];rfl) rfl rfl rfl (λ_=>jV rfl)
 ·split<;>exact h.cg rfl (by rw[hp];rfl) rfl rfl rfl (λ_=>jV rfl)
 ·split<;>exact h.cg rfl (by rw[hp];rfl) rfl rfl rfl (λ_=>jV rfl)
theorem nZ(h:SZ C s)(hi:i<C.N):s.cc i=js C (s.cur i):=h.cap i hi _ (aea _)
theorem SZ.step(hC:C.OK)(h:SZ C s)(hd:DT C s)(hi:i<C.N)(d:Int):SZ C (step C s i d).s:=by
 have P:=(hd.1 i hi).ph
 cases hp:s.pc i with
 | run=>unfold Am.step;rw[hp];exact h.instr hp
 | halted=>unfold Am.step;rw[hp];exact h
 | full=>unfold Am.step;rw[hp];exact h
 | parked =>
  unfold Am.step;rw[hp];simp only
  split
  ·exact h
  ·exact h.cg rfl (by rw[hp];split<;>rfl) rfl rfl rfl (λ_ _=>rfl)
 | grow c b t cc =>
  unfold gz at P;rw[hp]at P;simp only at P
  have hg:gen s i=s.cur i:=by unfold gen;rw[hp];rfl
  have yI:cc=js C (s.cur i):=by rw[P.2.2.2.2.1];exact nZ h hi
  have hb:cW C cc=js C (s.cur i+1):=by rw[yI];exact lE C _
  unfold Am.step;rw[hp];simp only
  obtain⟨a1,a2,a3,a4,a5,a6⟩:=h
  have hs:(S0 C:Int)<=s.size:=by rw[a3];omega
  refine⟨?_,?_,?_,?_,?_,?_⟩
  ·intro j hj g ZB
   simp only[St.to]at ZB⊢
   rw[aj (by rintro⟨rfl,rfl⟩;omega)]
   exact a1 j hj g ZB
  ·intro j hj
   simp only[St.to,bM]
   split
   ·next e=>subst e;rw[aI (by omega)];exact a2 j hj
   ·exact a2 j hj
  ·simp only[St.to]
   rw[rR (f:=λj=>tot C (gen s j)) (i:=i) (k:=1+js C (s.cur i+1)) hi,a3,hb]
   ·omega
   ·intro j hj;unfold gen;simp only[aI hj]
   ·unfold gen;simp only[aL,dJ,if_true,hp]
    simp only[tot,agD,if_false,agj];omega
  ·intro j hj g h1 h2
   simp only[St.to]at h2⊢
   by_cases e:j=i
   ·subst e
    simp only[gen,aL,dJ,if_true]at h2
    simp only[aL]
    by_cases e2:g=s.cur j+1
    ·subst e2;rw[aL,hb];exact⟨hs,by omega⟩
    ·rw[aI e2,hb]
     have:=a4 j hj g h1 (by rw[hg];omega)
     exact⟨this.1,by omega⟩
   ·simp only[gen,aI e]at h2
    simp only[aI e]
    have:=a4 j hj g h1 (by unfold gen;exact h2)
    exact⟨this.1,by omega⟩
  ·intro j j' g g' hj hj' h1 Jv h2 HH hne
   simp only[St.to]at h2 HH⊢
   have key:∀k x,k<C.N->1<=x->x<=gen s k->s.base k x+1+js C x<=s.size:=λk x hk h1 h2=>(a4 k hk x h1 h2).2
   have gk:∀k x,x<=gen {s with base:=bq s.base i (bq (s.base i) (s.cur i+1) s.size),pc:=bq s.pc i (.fH c b t cc)} k->(k=i/\x=s.cur i+1)∨(x<=gen s k/\¬(k=i/\x=s.cur i+1)):=by
    intro k x hx
    by_cases e:k=i
    ·subst e;simp only[gen,aL,dJ,if_true]at hx
     by_cases e2:x=s.cur k+1
     ·exact .inl ⟨rfl,e2⟩
     ·exact .inr ⟨by rw[hg];omega,λh=>e2 h.2⟩
    ·simp only[gen,aI e]at hx
     exact .inr ⟨hx,λh=>e h.1⟩
   have bk:∀k x,¬(k=i/\x=s.cur i+1)->bq s.base i (bq (s.base i) (s.cur i+1) s.size) k x=s.base k x:=by
    intro k x hx
    simp only[bM]
    split
    ·next e=>subst e;rw[aI (λe=>hx ⟨rfl,e⟩)]
    ·rfl
   have bn:bq s.base i (bq (s.base i) (s.cur i+1) s.size) i (s.cur i+1)=s.size:=by rw[aL,aL]
   rcases gk j g h2 with ⟨rfl,rfl⟩ | ⟨c1,c2⟩
   ·rcases gk j' g' HH with ⟨rfl,rfl⟩ | ⟨HI,HJ⟩
    ·simp at hne
    ·right;rw[bn,bk _ _ HJ];exact key j' g' hj' Jv HI
   ·rcases gk j' g' HH with ⟨rfl,rfl⟩ | ⟨HI,HJ⟩
    ·left;rw[bn,bk _ _ c2];exact key j g hj h1 c1
    ·rw[bk _ _ c2,bk _ _ HJ];exact a5 j j' g g' hj hj' h1 Jv c1 HI hne
  ·intro j hj g ZB
   simp only[St.to]at ZB
   by_cases e:j=i
   ·subst e;simp only[gen,aL,dJ,if_true]at ZB
    by_cases e2:g=s.cur j
    ·have:=P.2.2.2.2.2.2;rw[yI]at this;rw[e2];omega
    ·exact a6 j hj g (by rw[hg];omega)
   ·simp only[gen,aI e]at ZB;exact a6 j hj g ZB
 | fH c b t cc =>
  unfold Am.step;rw[hp];simp only
  refine h.of rfl (rS (p:=.dZ c b t cc t) rfl (by rw[hp];rfl)) rfl rfl (λj g hg=>eJ (by intro e;cases e;omega))
 | ew c b t cc n x =>
  unfold Am.step;rw[hp];simp only
  exact h.cg rfl (by rw[hp];split<;>rfl) rfl rfl rfl (λ_=>jV rfl)
 | fI c b t cc =>
  unfold gz at P;rw[hp]at P;simp only at P
  have hcap:=P.2.1
  rw[nZ h hi,lE]at hcap
  unfold Am.step;rw[hp];simp only
  obtain⟨a1,a2,a3,a4,a5,a6⟩:=h
  have hg:gen {s.wr (.buf i) (s.base i (s.cur i+1))with cur:=bq s.cur i (s.cur i+1),pc:=bq s.pc i (.ef c b (cW C cc))}=gen s:=by
   funext j;unfold gen
   by_cases e:j=i
   ·subst e;simp only[aL,hp,dJ,if_true];rfl
   ·simp only[aI e]
  have wF:gen (({s.wr (.buf i) (s.base i (s.cur i+1))with cur:=bq s.cur i (s.cur i+1)}:St).to i (.ef c b (cW C cc)))=gen s:=hg
  refine⟨?_,a2,by rw[wF];exact a3,by rw[wF];exact a4,by rw[wF];exact a5,by rw[wF];exact a6⟩
  intro j hj g ZB
  show bq s.mem (.buf i) (s.base i (s.cur i+1)) (.cap j g)=_
  rw[aI (by simp)]
  by_cases e:j=i
  ·subst e;simp only[St.to,aL]at ZB
   by_cases e2:g=s.cur j+1
   ·rw[e2];exact hcap
   ·exact a1 j hj g (by omega)
  ·simp only[St.to,aI e]at ZB;exact a1 j hj g ZB
 | back b =>
  unfold Am.step;rw[hp];simp only[nn]
  split
  ·exact h.cg rfl (by rw[hp];rfl) rfl rfl rfl (λ_=>jV rfl)
  ·split
   ·exact h.cg rfl (by rw[hp];rfl) rfl rfl rfl (λ_ _=>rfl)
   ·exact h.cg rfl (by rw[hp];split<;>rfl) rfl rfl rfl (λ_ _=>rfl)
 | j6 b =>
  unfold Am.step;rw[hp];simp only[nn]
  split
  ·exact h.cg rfl (by rw[hp];rfl) rfl rfl rfl (λ_=>jV rfl)
  ·exact h.cg rfl (by rw[hp];split<;>rfl) rfl rfl rfl (λ_=>jV rfl)
 | gl t =>
  unfold Am.step;rw[hp];simp only
  exact h.cg rfl (by rw[hp];split<;>rfl) rfl rfl rfl (λ_=>jV rfl)
 | iL t x nM =>
  unfold Am.step;rw[hp];simp only
  split
  ·exact h.cg rfl (by rw[hp];rfl) rfl rfl rfl (λ_=>jV rfl)
  ·exact h.cg rfl (by rw[hp];split<;>rfl) rfl rfl rfl (λ_=>jV rfl)
 | pG =>
  unfold Am.step;rw[hp];simp only
  exact h.cg rfl (by rw[hp];split<;>rfl) rfl rfl rfl (λ_ _=>rfl)
 | ji j =>
  unfold Am.step;rw[hp];simp only
  split
  ·exact h.cg rfl (by rw[hp];rfl) rfl rfl rfl (λ_=>jV rfl)
  ·exact h.cg rfl (by rw[hp];split<;>rfl) rfl rfl rfl (λ_ _=>rfl)
 | nV =>
  unfold Am.step;rw[hp];simp only
  split
  ·exact h.cg rfl (by rw[hp];rfl) rfl rfl rfl (λ_ _=>rfl)
  ·exact h.cg rfl (by rw[hp];split<;>rfl) rfl rfl rfl (λ_ _=>rfl)
 | _ =>
  unfold Am.step;rw[hp];simp only[fK,looking,nn]
  repeat' split
  all_goals first
   | exact h.cg rfl (by rw[hp];rfl) rfl rfl rfl (λ_ _=>rfl)
   | exact h.cg rfl (by rw[hp];rfl) rfl rfl rfl (λ_=>jV rfl)
end
def jr.rT:jr->Bool
 | .next | .join _ | .mark _ | .iR | .top _ | .bot _=>true
 | _=>false
def cr:Pc->List Int
 | .lO _ b=>[b]
 | .iG _ b t | .iH _ b t | .grow _ b t _ | .fH _ b t _ | .fI _ b t _=>[b,t]
 | .dZ _ b t _ n | .ew _ b t _ n _=>[b,t,n]
 | .ef _ b _ | .gS _ b=>[b]
 | .RU b | .gM b | .nU b=>[b]
 | .gl t=>[t]
 | .jS b t | .ij b t _ | .jA b t _=>[b,t]
 | .iL t _ _=>[t]
 | .jT _ t | .gN _ t | .gp _ t _ | .eZ _ t _ _ | .fJ _ t _=>[t]
 | .nl _ t=>[t]
 | _=>[]
def qE(x:Int)(n:Nat):Prop:=-(n:Int)<=x/\x<=n
structure BD(s:St)(n:Nat):Prop where
 m:∀a,a.rT=true->qE (s.mem a) (n+1)
 r:∀i,∀x∈cr (s.pc i),qE x (n+1)
 k:∀f,(s.fr f).aR<=n
section
variable {C:dH}{s:St}{i n:Nat}
theorem qE.mono{x:Int}{m:Nat}(h:qE x n)(hm:n<=m):qE x m:=⟨by have:=h.1;omega,by have:=h.2;omega⟩
theorem qE.inc{x:Int}(h:qE x n):qE (x+1) (n+1):=⟨by have:=h.1;omega,by have:=h.2;omega⟩
theorem qE.dec{x:Int}(h:qE x n):qE (x-1) (n+1):=⟨by have:=h.1;omega,by have:=h.2;omega⟩
theorem BD.of{s':St}{p:Pc}(h:BD s n)(hm:∀a,a.rT=true->qE (s'.mem a) (n+2))(hp:s'.pc=bq s.pc i p)(hr:∀x∈cr p,qE x (n+2))(hk:∀f,(s'.fr f).aR<=n+1):BD s' (n+1):=
 ⟨hm,λj x hx=>by
  rw[hp,bM]at hx;split at hx
  ·exact hr x hx
  ·exact(h.r j x hx).mono (by omega),hk⟩
theorem BD.mem(h:BD s n){a:jr}(ha:a.rT=true):qE (s.mem a) (n+2):=(h.m a ha).mono (by omega)
theorem BD.wr(h:BD s n){b:jr}{v:Int}(hv:b.rT=true->qE v (n+2)):∀a,a.rT=true->qE ((s.wr b v).mem a) (n+2):=λa ha=>by
 show qE (bq s.mem b v a) _
 rw[bM];split
 ·next e=>exact hv (e▸ ha)
 ·exact h.mem ha
theorem BD.aR(h:BD s n)(f:Nat):(s.fr f).aR<=n+1:=Nat.le_succ_of_le (h.k f)
theorem BD.lay(h:BD s n){g:Nat}{x:Fr}(hx:x.aR<=n+1)(f:Nat):((s.lay g x).fr f).aR<=n+1:=by
 show(bq s.fr g x f).aR<=_
 rw[bM];split
 ·exact hx
 ·exact h.aR f
theorem BD.step(h:BD s n)(d:Int):BD (step C s i d).s (n+1):=by
 have R:=h.r i
 cases hp:s.pc i with
 | run =>
  unfold Am.step;rw[hp];simp only;unfold instr;simp only
  split
  ·exact h.of (p:=s.pc i) (λa ha=>h.mem ha) (gq _ _).symm (λx hx=>(R x hx).mono (by omega)) (h.lay (h.aR _))
  ·exact h.of (p:=s.pc i) (λa ha=>h.mem ha) (gq _ _).symm (λx hx=>(R x hx).mono (by omega)) (h.lay (h.aR _))
  ·exact h.of (p:=s.pc i) (λa ha=>h.mem ha) (gq _ _).symm (λx hx=>(R x hx).mono (by omega)) (h.lay (h.aR _))
  ·exact h.of (p:=s.pc i) (λa ha=>h.mem ha) (gq _ _).symm (λx hx=>(R x hx).mono (by omega)) (h.lay (h.aR _))
  ·exact h.of (p:=s.pc i) (λa ha=>h.mem ha) (gq _ _).symm (λx hx=>(R x hx).mono (by omega)) (h.lay (by split<;>exact h.aR _))
  ·exact h.of (p:=s.pc i) (λa ha=>h.mem ha) (gq _ _).symm (λx hx=>(R x hx).mono (by omega)) (h.lay (h.aR _))
  ·exact h.of (p:=s.pc i) (λa ha=>h.mem ha) (gq _ _).symm (λx hx=>(R x hx).mono (by omega)) (h.lay (h.aR _))
  ·split
   ·exact h.of (h.wr (λ_=>(h.m .next rfl).inc)) rfl (λx hx=>by cases hx) (h.lay (h.aR _))
   ·refine h.of (h.wr (λ_=>(h.m .next rfl).inc)) rfl (λx hx=>by cases hx) (λf => ?_)
    simp only[St.lay,St.wr,St.to,St.put,bM]
    have k1:=h.k ((s.hold i).getD 0)
    have k2:=h.aR f
    split
    ·exact agP _
    ·split
     ·exact Nat.succ_le_succ k1
     ·exact k2
  ·split<;>exact h.of (h.wr (λ_=>(h.m (.join _) rfl).dec)) rfl (λx hx=>by cases hx) (h.lay (h.aR _))
  ·split<;>exact h.of (h.wr (λe=>by cases e)) rfl (λx hx=>by cases hx) (h.lay (h.aR _))
 | halted=>unfold Am.step;rw[hp];exact h.of (p:=s.pc i) (λa ha=>h.mem ha) (gq _ _).symm (λx hx=>(R x hx).mono (by omega)) h.aR
 | full=>unfold Am.step;rw[hp];exact h.of (p:=s.pc i) (λa ha=>h.mem ha) (gq _ _).symm (λx hx=>(R x hx).mono (by omega)) h.aR
 | parked =>
  unfold Am.step;rw[hp];simp only
  split
  ·exact h.of (p:=s.pc i) (λa ha=>h.mem ha) (gq _ _).symm (λx hx=>(R x hx).mono (by omega)) h.aR
  ·exact h.of (λa ha=>h.mem ha) rfl (by intro x hx;split at hx<;>cases hx) h.aR
 | grow c b t cc =>
  unfold Am.step;rw[hp];simp only
  rw[hp]at R
  refine h.of (λa ha => ?_) rfl (λx hx=>(R x hx).mono (by omega)) h.aR
  cases a<;>first | exact h.mem ha | cases ha
 | start x=>unfold Am.step;rw[hp];exact h.of (h.wr (λ_=>(h.m (.mark _) rfl).inc)) rfl (λx hx=>by cases hx) h.aR
 | fork c=>unfold Am.step;rw[hp];exact h.of (h.wr (λ_=>(h.m (.join _) rfl).inc)) rfl (λx hx=>by cases hx) h.aR
 | iF=>unfold Am.step;rw[hp];exact h.of (h.wr (λ_=>⟨by omega,by omega⟩)) rfl (λx hx=>by cases hx) h.aR
 | out p c=>unfold Am.step;rw[hp];simp only;split<;>exact h.of (h.wr (λ_=>(h.m (.join _) rfl).dec)) rfl (λx hx=>by cases hx) h.aR
 | take p c=>unfold Am.step;rw[hp];exact h.of (h.wr (λ_=>⟨by omega,by omega⟩)) rfl (λx hx=>by cases hx) h.aR
 | done=>unfold Am.step;rw[hp];simp only[fK];split<;>exact h.of (h.wr (λe=>by cases e)) rfl (λx hx=>by cases hx) h.aR
 | tell j =>
  unfold Am.step;rw[hp];simp only[fK];split
  ·exact h.of (h.wr (λe=>by cases e)) rfl (λx hx=>by cases hx) h.aR
  ·split<;>exact h.of (λa ha=>h.mem ha) rfl (λx hx=>by cases hx) h.aR
 | kE j=>unfold Am.step;rw[hp];simp only[fK];split<;>exact h.of (h.wr (λ_=>(h.m .iR rfl).dec)) rfl (λx hx=>by cases hx) h.aR
 | nk c=>unfold Am.step;rw[hp];exact h.of (λa ha=>h.mem ha) rfl (λx hx=>by rw[List.mem_singleton.1 hx];exact h.mem (a:=.bot i) rfl) h.aR
 | lO c b =>
  unfold Am.step;rw[hp];rw[hp]at R;simp only
  exact h.of (λa ha=>h.mem ha) rfl (λx hx=>by
   simp only[cr,afv,afw,afx]at hx
   rcases hx with rfl | rfl
   ·exact(R _ (by simp[cr])).mono (by omega)
   ·exact h.mem (a:=.top i) rfl) h.aR
 | iG c b t =>
  unfold Am.step;rw[hp];rw[hp]at R;simp only
  exact h.of (λa ha=>h.mem ha) rfl (λx hx=>by
   simp only[cr,afv,afw,afx]at hx
   rcases hx with rfl | rfl
   ·exact(R _ (by simp[cr])).mono (by omega)
   ·exact(R _ (by simp[cr])).mono (by omega)) h.aR
 | iH c b t =>
  unfold Am.step;rw[hp];rw[hp]at R;simp only
  split
  ·exact h.of (λa ha=>h.mem ha) rfl (λx hx=>by rw[List.mem_singleton.1 hx];exact(R _ (by simp[cr])).mono (by omega)) h.aR
  ·split
   ·exact h.of (λa ha=>h.mem ha) rfl (λx hx=>by cases hx) h.aR
   ·exact h.of (λa ha=>h.mem ha) rfl (λx hx=>by
    simp only[cr,afv,afw,afx]at hx
    rcases hx with rfl | rfl
    ·exact(R _ (by simp[cr])).mono (by omega)
    ·exact(R _ (by simp[cr])).mono (by omega)) h.aR
 | fH c b t cc =>
  unfold Am.step;rw[hp];rw[hp]at R;simp only
  exact h.of (h.wr (λe=>by cases e)) rfl (λx hx=>by
   simp only[cr,afv,afw,afx]at hx
   rcases hx with rfl | rfl | rfl
   ·exact(R _ (by simp[cr])).mono (by omega)
   ·exact(R _ (by simp[cr])).mono (by omega)
   ·exact(R _ (by simp[cr])).mono (by omega)) h.aR
 | dZ c b t cc n =>
  unfold Am.step;rw[hp];rw[hp]at R;simp only
  exact h.of (λa ha=>h.mem ha) rfl (λx hx=>by
   simp only[cr,afv,afw,afx]at hx
   rcases hx with rfl | rfl | rfl
   ·exact(R _ (by simp[cr])).mono (by omega)
   ·exact(R _ (by simp[cr])).mono (by omega)
   ·exact(R _ (by simp[cr])).mono (by omega)) h.aR
 | ew c b t cc n x =>
  unfold Am.step;rw[hp];rw[hp]at R;simp only
  refine h.of (h.wr (λe=>by cases e)) rfl (λy hy => ?_) h.aR
  split at hy
  ·simp only[cr,afv,afw,afx]at hy
   rcases hy with rfl | rfl | rfl
   ·exact(R _ (by simp[cr])).mono (by omega)
   ·exact(R _ (by simp[cr])).mono (by omega)
   ·exact(R n (by simp[cr])).inc
  ·simp only[cr,afv,afw,afx]at hy
   rcases hy with rfl | rfl
   ·exact(R _ (by simp[cr])).mono (by omega)
   ·exact(R _ (by simp[cr])).mono (by omega)
 | fI c b t cc =>
  unfold Am.step;rw[hp];rw[hp]at R;simp only
  exact h.of (h.wr (λe=>by cases e)) rfl (λx hx=>by rw[List.mem_singleton.1 hx];exact(R _ (by simp[cr])).mono (by omega)) h.aR
 | ef c b cc =>
  unfold Am.step;rw[hp];rw[hp]at R;simp only
  exact h.of (h.wr (λe=>by cases e)) rfl (λx hx=>by rw[List.mem_singleton.1 hx];exact(R _ (by simp[cr])).mono (by omega)) h.aR
 | gS c b =>
  unfold Am.step;rw[hp];rw[hp]at R;simp only
  exact h.of (h.wr (λ_=>(R b (by simp[cr])).inc)) rfl (λx hx=>by cases hx) h.aR
 | pG =>
  unfold Am.step;rw[hp];rw[hp]at R;simp only
  refine h.of (λa ha=>h.mem ha) rfl (λy hy => ?_) h.aR
  split at hy<;>cases hy
 | ji j =>
  unfold Am.step;rw[hp];rw[hp]at R;simp only
  split
  ·exact h.of (h.wr (λe=>by cases e)) rfl (λx hx=>by cases hx) h.aR
  ·refine h.of (λa ha=>h.mem ha) rfl (λy hy => ?_) h.aR
   split at hy<;>cases hy
 | j5 j =>
  unfold Am.step;rw[hp];rw[hp]at R;simp only
  exact h.of (h.wr (λ_=>(h.m .iR rfl).dec)) rfl (λx hx=>by cases hx) h.aR
 | oV =>
  unfold Am.step;rw[hp];rw[hp]at R;simp only
  exact h.of (λa ha=>h.mem ha) rfl (λx hx=>by rw[List.mem_singleton.1 hx];exact(h.m (.bot i) rfl).dec) h.aR
 | RU b =>
  unfold Am.step;rw[hp];rw[hp]at R;simp only
  exact h.of (λa ha=>h.mem ha) rfl (λx hx=>by rw[List.mem_singleton.1 hx];exact(R _ (by simp[cr])).mono (by omega)) h.aR
 | gM b =>
  unfold Am.step;rw[hp];rw[hp]at R;simp only
  exact h.of (h.wr (λ_=>(R b (by simp[cr])).mono (by omega))) rfl (λx hx=>by rw[List.mem_singleton.1 hx];exact(R _ (by simp[cr])).mono (by omega)) h.aR
 | nU b =>
  unfold Am.step;rw[hp];rw[hp]at R;simp only
  split
  ·exact h.of (λa ha=>h.mem ha) rfl (λx hx=>by
   simp only[cr,afv,afw,afx]at hx
   rcases hx with rfl | rfl
   ·exact(R _ (by simp[cr])).mono (by omega)
   ·exact h.mem (a:=.top i) rfl) h.aR
  ·split
   ·exact h.of (λa ha=>h.mem ha) rfl (λx hx=>by
    simp only[cr,afv,afw,afx]at hx
    rcases hx with rfl | rfl
    ·exact(R _ (by simp[cr])).mono (by omega)
    ·exact h.mem (a:=.top i) rfl) h.aR
   ·exact h.of (λa ha=>h.mem ha) rfl (λx hx=>by rw[List.mem_singleton.1 hx];exact h.mem (a:=.top i) rfl) h.aR
 | gl t =>
  unfold Am.step;rw[hp];rw[hp]at R;simp only
  refine h.of (h.wr (λ_=>(R t (by simp[cr])).mono (by omega))) rfl (λy hy => ?_) h.aR
  split at hy<;>cases hy
 | jS b t =>
  unfold Am.step;rw[hp];rw[hp]at R;simp only
  exact h.of (λa ha=>h.mem ha) rfl (λx hx=>by
   simp only[cr,afv,afw,afx]at hx
   rcases hx with rfl | rfl
   ·exact(R _ (by simp[cr])).mono (by omega)
   ·exact(R _ (by simp[cr])).mono (by omega)) h.aR
 | ij b t cc =>
  unfold Am.step;rw[hp];rw[hp]at R;simp only
  split
  ·exact h.of (λa ha=>h.mem ha) rfl (λx hx=>by cases hx) h.aR
  ·exact h.of (λa ha=>h.mem ha) rfl (λx hx=>by
   simp only[cr,afv,afw,afx]at hx
   rcases hx with rfl | rfl
   ·exact(R _ (by simp[cr])).mono (by omega)
   ·exact(R _ (by simp[cr])).mono (by omega)) h.aR
 | jA b t x =>
  unfold Am.step;rw[hp];rw[hp]at R;simp only
  split
  ·exact h.of (h.wr (λ_=>(R t (by simp[cr])).inc)) rfl (λx hx=>by rw[List.mem_singleton.1 hx];exact(R _ (by simp[cr])).mono (by omega)) h.aR
  ·exact h.of (λa ha=>h.mem ha) rfl (λx hx=>by rw[List.mem_singleton.1 hx];exact(R _ (by simp[cr])).mono (by omega)) h.aR
 | iL t x nM =>
  unfold Am.step;rw[hp];rw[hp]at R;simp only
  split
  ·exact h.of (h.wr (λ_=>(R t (by simp[cr])).inc)) rfl (λx hx=>by cases hx) h.aR
  ·refine h.of (h.wr (λ_=>(R t (by simp[cr])).inc)) rfl (λy hy => ?_) h.aR
   split at hy<;>cases hy
 | gG =>
  unfold Am.step;rw[hp];rw[hp]at R;simp only
  exact h.of (λa ha=>h.mem ha) rfl (λx hx=>by rw[List.mem_singleton.1 hx];exact h.mem (a:=.top _) rfl) h.aR
 | jT v t =>
  unfold Am.step;rw[hp];rw[hp]at R;simp only
  split
  ·exact h.of (λa ha=>h.mem ha) rfl (λx hx=>by cases hx) h.aR
  ·exact h.of (λa ha=>h.mem ha) rfl (λx hx=>by rw[List.mem_singleton.1 hx];exact(R _ (by simp[cr])).mono (by omega)) h.aR
 | gN v t =>
  unfold Am.step;rw[hp];rw[hp]at R;simp only
  exact h.of (λa ha=>h.mem ha) rfl (λx hx=>by rw[List.mem_singleton.1 hx];exact(R _ (by simp[cr])).mono (by omega)) h.aR
 | gp v t g =>
  unfold Am.step;rw[hp];rw[hp]at R;simp only
  exact h.of (λa ha=>h.mem ha) rfl (λx hx=>by rw[List.mem_singleton.1 hx];exact(R _ (by simp[cr])).mono (by omega)) h.aR
 | eZ v t g cc =>
  unfold Am.step;rw[hp];rw[hp]at R;simp only
  exact h.of (λa ha=>h.mem ha) rfl (λx hx=>by rw[List.mem_singleton.1 hx];exact(R _ (by simp[cr])).mono (by omega)) h.aR
 | fJ v t x =>
  unfold Am.step;rw[hp];rw[hp]at R;simp only
  split
  ·exact h.of (h.wr (λ_=>(R t (by simp[cr])).inc)) rfl (λx hx=>by cases hx) h.aR
  ·exact h.of (λa ha=>h.mem ha) rfl (λx hx=>by cases hx) h.aR
 | nV =>
  unfold Am.step;rw[hp];rw[hp]at R;simp only
  split
  ·exact h.of (λa ha=>h.mem ha) rfl (λx hx=>by cases hx) h.aR
  ·refine h.of (λa ha=>h.mem ha) rfl (λy hy => ?_) h.aR
   split at hy<;>cases hy
 | flag =>
  unfold Am.step;rw[hp];rw[hp]at R;simp only
  exact h.of (h.wr (λe=>by cases e)) rfl (λx hx=>by cases hx) h.aR
 | sleep =>
  unfold Am.step;rw[hp];rw[hp]at R;simp only
  exact h.of (h.wr (λ_=>(h.m .iR rfl).inc)) rfl (λx hx=>by cases hx) h.aR
 | jM =>
  unfold Am.step;rw[hp];rw[hp]at R;simp only[looking]
  split
  ·exact h.of (λa ha=>h.mem ha) rfl (λx hx=>by cases hx) h.aR
  ·split<;>exact h.of (λa ha=>h.mem ha) rfl (λx hx=>by cases hx) h.aR
 | od j =>
  unfold Am.step;rw[hp];rw[hp]at R;simp only
  exact h.of (λa ha=>h.mem ha) rfl (λx hx=>by rw[List.mem_singleton.1 hx];exact h.mem (a:=.top j) rfl) h.aR
 | nl j t =>
  unfold Am.step;rw[hp];rw[hp]at R;simp only[looking]
  split
  ·exact h.of (λa ha=>h.mem ha) rfl (λx hx=>by cases hx) h.aR
  ·split<;>exact h.of (λa ha=>h.mem ha) rfl (λx hx=>by cases hx) h.aR
 | back b =>
  unfold Am.step;rw[hp];rw[hp]at R;simp only[nn]
  split
  ·exact h.of (h.wr (λe=>by cases e)) rfl (λx hx=>by cases hx) h.aR
  ·split
   ·exact h.of (λa ha=>h.mem ha) rfl (λx hx=>by cases hx) h.aR
   ·refine h.of (λa ha=>h.mem ha) rfl (λy hy => ?_) h.aR
    split at hy<;>cases hy
 | j6 b =>
  unfold Am.step;rw[hp];rw[hp]at R;simp only[nn]
  split
  ·exact h.of (h.wr (λ_=>(h.m .iR rfl).dec)) rfl (λx hx=>by cases hx) h.aR
  ·refine h.of (h.wr (λ_=>(h.m .iR rfl).dec)) rfl (λy hy => ?_) h.aR
   split at hy<;>cases hy
end
def n3(C:dH)(s:St):jr->Prop
 | .result | .next | .iR | .Vu=>True
 | .join f | .mark f=>f<C.F
 | .slot f k=>f<C.F/\k<8
 | .flag i | .top i | .bot i | .buf i=>i<C.N
 | .cap i g=>i<C.N/\g<=gen s i
 | .el i g n=>i<C.N/\g<=gen s i/\n<js C g
def place(C:dH)(s:St):jr->Int
 | .result=>0
 | .next=>1
 | .join f=>2+10*f
 | .mark f=>3+10*f
 | .slot f k=>4+10*f+k
 | .iR=>2+10*C.F
 | .Vu=>3+10*C.F
 | .flag i=>4+10*C.F+i
 | .top i=>jU C i
 | .bot i=>jU C i+1
 | .buf i=>jU C i+2
 | .cap i g=>s.base i g
 | .el i g n=>s.base i g+1+n
inductive tu | fix (x:Int) | dq (i r:Nat) | gr (i g r:Nat)
def rU(C:dH):jr->tu
 | .result=>.fix 0
 | .next=>.fix 1
 | .join f=>.fix (2+10*f)
 | .mark f=>.fix (3+10*f)
 | .slot f k=>.fix (4+10*f+k)
 | .iR=>.fix (2+10*C.F)
 | .Vu=>.fix (3+10*C.F)
 | .flag i=>.fix (4+10*C.F+i)
 | .top i=>.dq i 0
 | .bot i=>.dq i 1
 | .buf i=>.dq i 2
 | .cap i g=>if g=0 then .dq i 3 else .gr i g 0
 | .el i g n=>if g=0 then .dq i (4+n)else .gr i g (1+n)
section
variable {C:dH}{s:St}
theorem Ye{i:Nat}(h:i<C.N):jU C i+(4+C.first)<=S0 C:=by
 unfold jU S0
 have:(i+1)*(4+C.first)<=C.N*(4+C.first):=afm _ h
 rw[agm]at this;omega
theorem uH(i:Nat):4+10*C.F+C.N<=jU C i:=by unfold jU;omega
theorem pY{i j:Nat}(h:i<j):jU C i+(4+C.first)<=jU C j:=by
 unfold jU
 have:(i+1)*(4+C.first)<=j*(4+C.first):=afm _ h
 rw[agm]at this;omega
def F1(C:dH)(s:St)(z:tu)(x:Int):Prop:=
 match z with
 | .fix y=>x=y/\0<=y/\y<4+10*C.F+C.N
 | .dq i r=>i<C.N/\r<4+C.first/\x=jU C i+r
 | .gr i g r=>i<C.N/\1<=g/\g<=gen s i/\r<1+js C g/\x=s.base i g+r
theorem qG(h:SZ C s){a:jr}(ha:n3 C s a):F1 C s (rU C a) (place C s a):=by
 cases a with
 | result=>exact⟨rfl,by omega,by omega⟩
 | next=>exact⟨rfl,by omega,by omega⟩
 | iR=>exact⟨rfl,by omega,by omega⟩
 | Vu=>exact⟨rfl,by omega,by omega⟩
 | join f=>have:f<C.F:=ha;exact⟨rfl,by omega,by omega⟩
 | mark f=>have:f<C.F:=ha;exact⟨rfl,by omega,by omega⟩
 | slot f k=>have:f<C.F/\k<8:=ha;exact⟨rfl,by omega,by omega⟩
 | flag i=>have:i<C.N:=ha;exact⟨rfl,by omega,by omega⟩
 | top i=>exact⟨ha,by omega,by simp[place]⟩
 | bot i=>exact⟨ha,by omega,by simp[place]⟩
 | buf i=>exact⟨ha,by omega,by simp[place]⟩
 | cap i g =>
  by_cases e:g=0
  ·subst e;simp only[rU,if_true];exact⟨ha.1,by omega,by simp only[place];rw[h.xk i ha.1];omega⟩
  ·simp only[rU,aj e];exact⟨ha.1,by omega,ha.2,by omega,by simp[place]⟩
 | el i g n =>
  by_cases e:g=0
  ·subst e;simp only[rU,if_true];exact⟨ha.1,by have:=ha.2.2;simp only[js]at this;omega,by simp only[place];rw[h.xk i ha.1];omega⟩
  ·simp only[rU,aj e];exact⟨ha.1,by omega,ha.2.1,by have:=ha.2.2;omega,by simp only[place];omega⟩
theorem BK(h:SZ C s){z:tu}{x:Int}(hz:F1 C s z x):0<=x/\x<s.size:=by
 have hs:(S0 C:Int)<=s.size:=by rw[h.size];omega
 have h0:4+10*C.F+C.N<=S0 C:=by unfold S0;omega
 cases z with
 | fix y=>obtain⟨rfl,a,b⟩:=hz;omega
 | dq i r=>obtain⟨a,b,rfl⟩:=hz;have:=Ye a;omega
 | gr i g r=>obtain⟨a,b,c,d,rfl⟩:=hz;have:=h.bs i a g b c;omega
theorem yJ(h:SZ C s){z z':tu}{x:Int}(hz:F1 C s z x)(xl:F1 C s z' x):z=z':=by
 have h0:4+10*C.F+C.N<=S0 C:=by unfold S0;omega
 cases z with
 | fix y =>
  obtain⟨rfl,a,b⟩:=hz
  cases z' with
  | fix y'=>obtain⟨rfl,_,_⟩:=xl;rfl
  | dq i r=>obtain⟨a',b',c'⟩:=xl;have:=uH (C:=C) i;omega
  | gr i g r=>obtain⟨a',b',c',d',e'⟩:=xl;have:=h.bs i a' g b' c';omega
 | dq i r =>
  obtain⟨a,b,c⟩:=hz
  have hi:=Ye a
  cases z' with
  | fix y'=>obtain⟨rfl,_,_⟩:=xl;have:=uH (C:=C) i;omega
  | dq i' r' =>
   obtain⟨a',b',c'⟩:=xl
   rcases Nat.lt_trichotomy i i' with e | e | e
   ·have:=pY (C:=C) e;omega
   ·subst e;have:r=r':=by omega
    rw[this]
   ·have:=pY (C:=C) e;omega
  | gr i' g r'=>obtain⟨a',b',c',d',e'⟩:=xl;have:=h.bs i' a' g b' c';omega
 | gr i g r =>
  obtain⟨a,b,c,d,e⟩:=hz
  have hb:=h.bs i a g b c
  cases z' with
  | fix y'=>obtain⟨rfl,_,_⟩:=xl;omega
  | dq i' r'=>obtain⟨a',b',c'⟩:=xl;have:=Ye a';omega
  | gr i' g' r' =>
   obtain⟨a',b',c',d',e'⟩:=xl
   by_cases hh:i≠i'∨g≠g'
   ·have:=h.dj i i' g g' a a' b b' c c' hh;omega
   ·have e1:i=i':=Decidable.byContradiction λe=>hh (.inl e)
    have e2:g=g':=Decidable.byContradiction λe=>hh (.inr e)
    subst e1;subst e2;have:r=r':=by omega
    rw[this]
theorem xm(h:SZ C s){a b:jr}(ha:n3 C s a)(hb:n3 C s b)(e:rU C a=rU C b):a=b:=by
 cases a<;>cases b<;>simp only[rU]at e<;>simp only[n3]at ha hb<;>(try rfl)<;>(repeat' split at e)<;>simp only[tu.fix.injEq,tu.dq.injEq,tu.gr.injEq,reduceCtorEq]at e<;>first
  | omega
  | (exfalso;revert e ha hb;simp;done)
  | (simp only[jr.join.injEq,jr.mark.injEq,jr.slot.injEq,jr.flag.injEq,jr.top.injEq,jr.bot.injEq,jr.buf.injEq,jr.cap.injEq,jr.el.injEq];first | omega | (refine⟨?_,?_⟩<;>omega) | (refine⟨?_,?_,?_⟩<;>omega))
theorem vv(h:SZ C s){a b:jr}(ha:n3 C s a)(hb:n3 C s b)(e:place C s a=place C s b):a=b:=
 xm h ha hb (yJ h (qG h ha) (e▸ qG h hb))
theorem nu(h:SZ C s){a:jr}(ha:n3 C s a):0<=place C s a/\place C s a<s.size:=BK h (qG h ha)
structure CL(C:dH)(s:St)(c:List Int):Prop where
 len:(c.length:Int)=s.size
 get:∀a,n3 C s a->c.getD (place C s a).toNat 0=s.mem a
theorem CL.n4{c:List Int}(h:CL C s c)(hz:SZ C s){a:jr}(ha:n3 C s a):0<=place C s a/\place C s a<c.length/\(place C s a).toNat<c.length:=by
 have:=nu hz ha;have:=h.len;omega
theorem CL.of{s':St}{c:List Int}(h:CL C s c)(h1:s'.mem=s.mem)(h2:s'.size=s.size)(h3:s'.base=s.base)(h4:gen s'=gen s):CL C s' c:=by
 have e1:∀a,n3 C s' a=n3 C s a:=λa=>by cases a<;>simp only[n3,h4]
 have e2:∀a,place C s' a=place C s a:=λa=>by cases a<;>simp only[place,h3]
 exact⟨by rw[h2];exact h.len,λa ha=>by rw[e2,h1];exact h.get a (e1 a▸ ha)⟩
theorem CL.set{s':St}{c:List Int}{b:jr}{v:Int}(h:CL C s c)(hz:SZ C s)(hb:n3 C s b)(h1:s'.mem=bq s.mem b v)(h2:s'.size=s.size)(h3:s'.base=s.base)(h4:gen s'=gen s):CL C s' (c.set (place C s b).toNat v):=by
 have e1:∀a,n3 C s' a=n3 C s a:=λa=>by cases a<;>simp only[n3,h4]
 have e2:∀a,place C s' a=place C s a:=λa=>by cases a<;>simp only[place,h3]
 refine⟨by rw[h2,acG];exact h.len,λa ha => ?_⟩
 rw[e1]at ha
 rw[e2,h1,bM,List.getD_eq_getElem?_getD,List.getElem?_set]
 have la:=h.n4 hz ha
 have lb:=h.n4 hz hb
 by_cases e:a=b
 ·subst e;rw[au rfl,au la.2.2,au rfl];rfl
 ·have hne:(place C s b).toNat≠(place C s a).toNat:=λe'=>e (vv hz ha hb (by omega))
  rw[aj hne,aj e,<-List.getD_eq_getElem?_getD];exact h.get a ha
theorem CL.grow{s':St}{c:List Int}{i:Nat}(h:CL C s c)(hz:SZ C s)(hi:i<C.N)(hg:gen s i=s.cur i)
 (h1:∀a,s'.mem a=match a with | .cap i' g'=>if i'=i/\g'=s.cur i+1 then 0 else s.mem a | .el i' g' _=>if i'=i/\g'=s.cur i+1 then 0 else s.mem a | _=>s.mem a)
 (h2:s'.size=s.size+1+js C (s.cur i+1)) (h3:s'.base=bq s.base i (bq (s.base i) (s.cur i+1) s.size)) (h4:gen s'=bq (gen s) i (s.cur i+1)):CL C s' (c++List.replicate (1+js C (s.cur i+1)) 0):=by
 have hl:=h.len
 have hnew:∀k,c.length<=k->(c++List.replicate (1+js C (s.cur i+1)) (0:Int)).getD k 0=0:=λk hk=>by
  rw[List.getD_eq_getElem?_getD,List.getElem?_append_right hk,List.getElem?_replicate];split<;>rfl
 have hold:∀k,k<c.length->(c++List.replicate (1+js C (s.cur i+1)) (0:Int)).getD k 0=c.getD k 0:=λk hk=>by
  rw[List.getD_eq_getElem?_getD,List.getElem?_append_left hk,<-List.getD_eq_getElem?_getD]
 refine⟨by rw[h2,ad9,aeb];omega,λa ha => ?_⟩
 have key:∀a,n3 C s a->place C s' a=place C s a->s'.mem a=s.mem a->(c++List.replicate (1+js C (s.cur i+1)) (0:Int)).getD (place C s' a).toNat 0=s'.mem a:=λa hv hp hm=>by
  rw[hp,hm,hold _ (h.n4 hz hv).2.2];exact h.get a hv
 cases a with
 | cap j g =>
  have HK:=ha.1
  have BL:=ha.2
  rw[h4,bM]at BL
  by_cases e:j=i/\g=s.cur i+1
  ·obtain⟨rfl,rfl⟩:=e
   rw[h1];simp only[and_self,if_true,place];rw[h3,aL,aL]
   exact hnew _ (by omega)
  ·refine key _ ⟨HK,?_⟩ ?_ (by rw[h1];exact aj e)
   ·split at BL
    ·next e'=>subst e';rw[hg];have:g≠s.cur j+1:=λx=>e ⟨rfl,x⟩;omega
    ·exact BL
   ·simp only[place];rw[h3,bM];split
    ·next e'=>subst e';rw[aI (λx=>e ⟨rfl,x⟩)]
    ·rfl
 | el j g n =>
  have HK:=ha.1
  have BL:=ha.2.1
  rw[h4,bM]at BL
  by_cases e:j=i/\g=s.cur i+1
  ·obtain⟨rfl,rfl⟩:=e
   rw[h1];simp only[and_self,if_true,place];rw[h3,aL,aL]
   exact hnew _ (by omega)
  ·refine key _ ⟨HK,?_,ha.2.2⟩ ?_ (by rw[h1];exact aj e)
   ·split at BL
    ·next e'=>subst e';rw[hg];have:g≠s.cur j+1:=λx=>e ⟨rfl,x⟩;omega
    ·exact BL
   ·simp only[place];rw[h3,bM];split
    ·next e'=>subst e';rw[aI (λx=>e ⟨rfl,x⟩)]
    ·rfl
 | _=>exact key _ ha rfl (by rw[h1])
end
end Am
end
section
namespace Mo
open Go SL GX
def jZ(i:bC):Am.CB:=
 if i.aQ=0 then .const i.A.toNat i.K else if i.aQ=1 then .move i.A.toNat i.B.toNat else if i.aQ=2 then .arith i.K i.A.toNat i.B.toNat i.C.toNat
 else if i.aQ=3 then .jump i.A.toNat else if i.aQ=4 then .branch i.A.toNat i.B.toNat else if i.aQ=5 then .spawn i.A.toNat i.B.toNat i.C.toNat
 else if i.aQ=6 then .sync else if i.aQ=7 then .load i.A.toNat i.B.toNat else if i.aQ=8 then .gH i.A.toNat else .ret i.A.toNat
def Eb(op x y:Int):Int:=match j9 op x y with
 | some r=>r.1
 | none=>0
theorem xn{op:Int}(h0:0<=op)(h1:op<16)(x y:Int):j9 op x y=some (Eb op x y,0):=by
 have d :∃a b,lu x y=some (a,b):=by
  unfold lu
  by_cases h:y=0
  ·rw[au h];exact⟨_,_,rfl⟩
  ·rw[aj h];split
   ·exact⟨_,_,rfl⟩
   ·exact⟨_,_,rfl⟩
 obtain⟨a,b,d⟩:=d
 have e :∃v,oP op x y=some v:=by
  have it:∀{c:Prop} [Decidable c] {x y:Option Int},(∃v,x=some v)->(∃v,y=some v)->∃v,(if c then x else y)=some v:=λhx hy=>by
   split
   ·exact hx
   ·exact hy
  have tr:∀b:Bool,∃v,Rd b=some v:=λb=>by cases b<;>exact⟨_,rfl⟩
  have ob:∀{x:Option Int},(∃v,x=some v)->∃v,bH x (λr=>some r)=some v:=λ⟨v,h⟩=>⟨v,by rw[h];rfl⟩
  unfold oP
  rw[d]
  exact it ⟨_,rfl⟩ (it ⟨_,rfl⟩ (it ⟨_,rfl⟩ (it ⟨_,rfl⟩ (it ⟨_,rfl⟩ (it ⟨_,rfl⟩ (it ⟨_,rfl⟩ (it ⟨_,rfl⟩ (it ⟨_,rfl⟩ (it ⟨_,rfl⟩ (it ⟨_,rfl⟩ (it ⟨_,rfl⟩ (it (ob (tr _)) (it (ob (tr _)) (it (ob (tr _)) (ob (tr _))))))))))))))))
 obtain⟨v,e⟩:=e
 have:j9 op x y=some (v,0):=by
  unfold j9 rK
  rw[au h0,ai,au (afC h1),e,ai]
 unfold Eb;rw[this]
def cfg(p:ay)(N F f m:Nat):Am.dH:=
 { N:=N,F:=F,first:=f,most:=m,Ae:=p.aB.length,len:=λg=>(ag p.aB g).Code.length,params:=λg=>(ag p.aB g).MW.toNat,bK:=λg=>(ag p.aB g).dA.toNat,
   code:=λg a=>jZ (ag (ag p.aB g).Code a),ap:=Eb,pd:=λx k=>wi (wi (wi (x*1000003)+(k:Int))+1)}
theorem mY{x n:Int}(h:jC x n=true):0<=x/\x<n:=j3.1 h
theorem BM{p:ay}{g:ax}(h:Code p g)(hs:qW g){a:Nat}(ha:a<g.Code.length)(h3:¬(ag g.Code a).aQ=3)(h9:¬(ag g.Code a).aQ=9):a+1<g.Code.length:=by
 have en:=h.fin
 unfold sV at en
 simp only[af6,af7]at en
 by_cases e:a=g.Code.length-1
 ·rw[<-e]at en;rcases en with en | en
  ·exact absurd en h3
  ·exact absurd en h9
 ·omega
theorem xo{p:ay}{N F f m:Nat}(hv:Valid p)(BN:1<=N)(hn:N<=64)(HM:1<=F)(hf:F<=4096)(h1:1<=f)(Ah:f<=m)(hm:m<=4096):(cfg p N F f m).OK where
 n1:=BN
 n64:=hn
 f1:=HM
 f4:=hf
 c1:=h1
 cm:=Ah
 m4:=hm
 fn0:=hv.n1
 BJ:=λg hg=>by have:=(hv.sH g hg).c1;exact this
 qD:=λg hg=>by
  have a1:=(hv.sH g hg).rp
  have a2:=(hv.sH g hg).r16
  have a3:=(hv.sH g hg).p0
  exact⟨by show(ag p.aB g).MW.toNat<=(ag p.aB g).dA.toNat;omega,by show(ag p.aB g).dA.toNat<=16;omega⟩
 ins:=λg hg a ha=>by
  change g<p.aB.length at hg
  change a<(ag p.aB g).Code.length at ha
  have hs:=hv.sH g hg
  have hc:=hv.code g hg
  have hi:=(hc.ins a ha).1
  have yo:=(hc.ins a ha).2
  have hl:=BM hc hs ha
  have s8:=hs.s8
  unfold gD at hi
  unfold kB at yo
  unfold Am.xj
  show match jZ (ag (ag p.aB g).Code a)with
   | .const x _=>x<(ag p.aB g).dA.toNat/\a+1<(ag p.aB g).Code.length
   | .gH x=>x<(ag p.aB g).dA.toNat/\a+1<(ag p.aB g).Code.length
   | .move x y=>x<(ag p.aB g).dA.toNat/\y<(ag p.aB g).dA.toNat/\a+1<(ag p.aB g).Code.length
   | .arith op x y z=>x<(ag p.aB g).dA.toNat/\y<(ag p.aB g).dA.toNat/\z<(ag p.aB g).dA.toNat/\a+1<(ag p.aB g).Code.length
   | .jump t=>t<(ag p.aB g).Code.length
   | .branch x t=>x<(ag p.aB g).dA.toNat/\t<(ag p.aB g).Code.length/\a+1<(ag p.aB g).Code.length
   | .spawn s f c=>s<8/\f<p.aB.length/\((ag p.aB f).MW.toNat=0∨c+(ag p.aB f).MW.toNat<=(ag p.aB g).dA.toNat)/\a+1<(ag p.aB g).Code.length
   | .sync=>a+1<(ag p.aB g).Code.length
   | .load x s=>x<(ag p.aB g).dA.toNat/\s<8/\a+1<(ag p.aB g).Code.length
   | .ret x=>x<(ag p.aB g).dA.toNat
  have hk:=(Code.snd hs hc).kind (a:Int) (by omega) (by omega)
  rw[Zi]at hk
  generalize ag (ag p.aB g).Code a=c at *
  have hk:c.aQ=0∨c.aQ=1∨c.aQ=2∨c.aQ=3∨c.aQ=4∨c.aQ=5∨c.aQ=6∨c.aQ=7∨c.aQ=8∨c.aQ=9:=by omega
  unfold jZ
  rcases hk with k | k | k | k | k | k | k | k | k | k<;>simp[k,jC]at hi yo hl⊢
  ·omega
  ·omega
  ·omega
  ·omega
  ·omega
  ·have:=(hv.sH c.B.toNat (by omega)).p0;omega
  ·omega
  ·omega
  ·omega
  ·omega
def nt(M:ae)(c:List Int)(k a x y:Int)(ok:Bool):ae:={M with cell:=c,log:=if M.watched=true then M.log++[⟨M.lK,k,a,x,y,ok⟩]else M.log}
structure AR(C:Am.dH)(s:Am.St)(M:ae)(sz n:Nat):Prop where
 size:M.n7=sz
 s1:sz<=1048576
 fit:s.size<=sz
 mark:M.dL=(M.cell.length:Int)
 cl:Am.CL C s M.cell
 lg:M.log.length<=n
section
variable {C:Am.dH}{s:Am.St}{M:ae}{sz n:Nat}
theorem kY(h:M.log.length<=2000000000)(c:List Int)(k a x y:Int)(ok:Bool):cy {M with cell:=c} k a x y ok=some (nt M c k a x y ok):=by
 unfold cy nt
 by_cases e:M.watched=true
 ·rw[au e,au e,au (by show(M.log.length+1)*48<=_;omega)]
 ·rw[aj e,aj e]
theorem AR.yK(h:AR C s M sz n)(hz:Am.SZ C s){a:Am.jr}(ha:Am.n3 C s a):aZ (Am.place C s a) M.cell.length/\Am.place C s a<1048576/\ag M.cell (Am.place C s a).toNat=s.mem a:=by
 have l:=h.cl.n4 hz ha
 have p:=Am.nu hz ha
 have f:=h.fit
 have s1:=h.s1
 exact⟨⟨l.1,l.2.1⟩,by omega,h.cl.get a ha⟩
theorem AR.out(h:AR C s M sz n)(hz:Am.SZ C s){a:Am.jr}(ha:Am.n3 C s a):cZ M (Am.place C s a)=some false:=by
 have l:=h.cl.n4 hz ha
 unfold cZ jz
 rw[h.mark,iQ_,afC (by omega),ai];rfl
theorem kO(h:AR C s M sz n)(hz:Am.SZ C s)(hn:n<=2000000000){a:Am.jr}(ha:Am.n3 C s a):cF M (Am.place C s a)=some (s.mem a,0,nt M M.cell 0 (Am.place C s a) (s.mem a) 0 true):=by
 obtain⟨i1,_,i3⟩:=h.yK hz ha
 have lg:=h.lg
 unfold cF
 rw[h.out hz ha,ai,aj (by decide),au i1,i3]
 have:=kY (M:=M) (by omega) M.cell 0 (Am.place C s a) (s.mem a) 0 true
 rw[show cy M 0 (Am.place C s a) (s.mem a) 0 true=_ from this,ai]
theorem jF(h:AR C s M sz n)(hz:Am.SZ C s)(hn:n<=2000000000){a:Am.jr}(ha:Am.n3 C s a)(v:Int):bt M (Am.place C s a) v=some (0,nt M (M.cell.set (Am.place C s a).toNat v) 1 (Am.place C s a) v 0 true):=by
 obtain⟨i1,_,i3⟩:=h.yK hz ha
 have lg:=h.lg
 unfold bt
 rw[h.out hz ha,ai,aj (by decide),au i1,kY (by omega),ai]
theorem pZ(h:AR C s M sz n)(hz:Am.SZ C s)(hn:n<=2000000000){a:Am.jr}(ha:Am.n3 C s a){d v:Int}(hv:wi (s.mem a+d)=v):dm M (Am.place C s a) d=some (v,0,nt M (M.cell.set (Am.place C s a).toNat v) 3 (Am.place C s a) d v true):=by
 obtain⟨i1,_,i3⟩:=h.yK hz ha
 have lg:=h.lg
 have l:=h.cl.n4 hz ha
 unfold dm
 rw[h.out hz ha,ai,aj (by decide),au i1,i3,hv,au (by rw[acG];exact i1),kY (by omega),ai]
 have hin:aZ (Am.place C s a) (nt M (M.cell.set (Am.place C s a).toNat v) 3 (Am.place C s a) d v true).cell.length:=by
  show aZ _ (M.cell.set _ v).length;rw[acG];exact i1
 rw[au hin]
 have:ag (nt M (M.cell.set (Am.place C s a).toNat v) 3 (Am.place C s a) d v true).cell (Am.place C s a).toNat=v:=by
  show ag (M.cell.set _ v) _=v
  rw[eX (by omega),au rfl]
 rw[this]
theorem xp(h:AR C s M sz n)(hz:Am.SZ C s)(hn:n<=2000000000){a:Am.jr}(ha:Am.n3 C s a)(o v:Int):gL M (Am.place C s a) o v=some (s.mem a==o,0,nt M (if s.mem a=o then M.cell.set (Am.place C s a).toNat v else M.cell) 2 (Am.place C s a) o v (s.mem a==o)):=by
 obtain⟨i1,_,i3⟩:=h.yK hz ha
 have lg:=h.lg
 unfold gL
 rw[h.out hz ha,ai,aj (by decide),au i1,i3]
 by_cases e:s.mem a=o
 ·rw[au e,au e,kY (by omega),ai]
 ·rw[aj e,aj e]
  have:=kY (M:=M) (by omega) M.cell 2 (Am.place C s a) o v (s.mem a==o)
  rw[show cy M 2 (Am.place C s a) o v (s.mem a==o)=_ from this,ai]
theorem Ec(h:AR C s M sz n)(hn:n<=2000000000){k:Nat}(hk:1<=k)(hf:M.cell.length+k<=sz):N9 M (k:Int)=some (s.size,0,{nt M (M.cell++List.replicate k 0) 4 s.size k 0 true with dL:=s.size+k}):=by
 have lg:=h.lg
 have s1:=h.s1
 have hl:=h.cl.len
 unfold N9 Ps jb
 rw[OU,iO_,h.mark,h.size,bz (x:=(sz:Int)-(M.cell.length:Int)) (by omega),iO_,ai,au rfl,bJ,au ⟨by omega,by show(M.cell.length+(k:Int).toNat)*8<=_;omega⟩,Zi]
 have:=kY (M:={M with dL:=wi (((M.cell.length:Nat):Int)+k)}) (by show M.log.length<=_;omega) (M.cell++List.replicate k 0) 4 (M.cell.length:Int) k 0 true
 have e:cy ({({M with dL:=wi (((M.cell.length:Nat):Int)+k)}:ae)with cell:=M.cell++List.replicate k 0}) 4 ((M.cell.length:Nat):Int) (k:Int) 0 true=_:=this
 obtain⟨z1,z2,z3,z4,z5,z6⟩:=M
 simp only at e h hf hl lg s1⊢
 have hs:=h.size;have hm:=h.mark
 simp only at hs hm
 subst hs;subst hm
 rw[e,ai,bz (by omega),hl];rfl
theorem AR.same{s':Am.St}(h:AR C s M sz n)(h1:s'.mem=s.mem)(h2:s'.size=s.size)(h3:s'.base=s.base)(h4:Am.gen s'=Am.gen s)(k a x y:Int)(ok:Bool):AR C s' (nt M M.cell k a x y ok) sz (n+1):=
 ⟨h.size,h.s1,by rw[h2];exact h.fit,h.mark,h.cl.of h1 h2 h3 h4,by
  have:=h.lg
  show(if M.watched=true then M.log++[_]else M.log).length<=_
  split
  ·rw[ad9];simp;omega
  ·omega⟩
theorem AR.keep{s':Am.St}(h:AR C s M sz n)(h1:s'.mem=s.mem)(h2:s'.size=s.size)(h3:s'.base=s.base)(h4:Am.gen s'=Am.gen s):AR C s' M sz (n+1):=
 ⟨h.size,h.s1,by rw[h2];exact h.fit,h.mark,h.cl.of h1 h2 h3 h4,Nat.le_succ_of_le h.lg⟩
theorem AR.set{s':Am.St}{b:Am.jr}{v:Int}(h:AR C s M sz n)(hz:Am.SZ C s)(hb:Am.n3 C s b)(h1:s'.mem=Am.bq s.mem b v)(h2:s'.size=s.size)(h3:s'.base=s.base)(h4:Am.gen s'=Am.gen s)(k a x y:Int)(ok:Bool) :
 AR C s' (nt M (M.cell.set (Am.place C s b).toNat v) k a x y ok) sz (n+1):=
 ⟨h.size,h.s1,by rw[h2];exact h.fit,by show M.dL=((M.cell.set _ _).length:Nat);rw[acG];exact h.mark,h.cl.set hz hb h1 h2 h3 h4,by
  have:=h.lg
  show(if M.watched=true then M.log++[_]else M.log).length<=_
  split
  ·rw[ad9];simp;omega
  ·omega⟩
end
def DO(C:Am.dH)(v:Nat)(k st:Int)(o:aK):Prop:=o.kind=k/\o.ag=st/\o.jw=Am.jU C v/\o.lj=C.most
def TO(C:Am.dH)(k st:Int)(f:Nat)(o:aV):Prop:=o.cB=1/\o.dk=C.F/\o.dK=f/\o.aD=st/\o.kind=k
def LO(C:Am.dH)(i:Nat)(k st kk:Int)(o:aX):Prop:=o.bx=2+10*(C.F:Int)/\o.bP=C.N/\o.fT=i/\o.cu=k/\o.aC=st/\o.cL=kk
def rV(C:Am.dH)(v:Nat):aT:=⟨Am.jU C v,C.most⟩
def RO(C:Am.dH)(i:Nat)(st kk:Int)(a:aW):Prop:=a.aJ=12/\LO C i 1 st kk a.Nf/\∀v,v<C.N->ag a.Nf.dW v=rV C v
def ring(C:Am.dH)(i j:Nat)(k:Nat):Prop:=1<=k/\k<C.N/\(i+k)%C.N=j
def ph(C:Am.dH)(i:Nat)(p:Am.Pc)(tr:Nat)(cj:Nat)(bs:Nat->Nat->Int)(a:aW):Prop:=
 match p with
 | .halted=>a.aJ=13
 | .full=>a.aJ=14
 | .start x=>a.aJ=0/\a.from_=x
 | .run=>a.aJ=1
 | .fork c=>a.aJ=2/\a.ct=c
 | .iF=>a.aJ=5/\TO C 3 2 a.an.toNat a.bA
 | .out p c=>a.aJ=6/\a.done=c/\TO C 2 2 p a.bA
 | .take p c=>a.aJ=6/\a.done=c/\TO C 2 3 p a.bA
 | .done=>a.aJ=7/\LO C i 4 10 1 a.Nf
 | .tell j=>a.aJ=7/\∃k:Nat,LO C i 4 9 k a.Nf/\ring C i j k
 | .kE j=>a.aJ=7/\∃k:Nat,LO C i 4 7 k a.Nf/\ring C i j k
 | .nk c=>a.aJ=3/\a.ct=c/\DO C i 1 1 a.aG/\a.aG.v=c
 | .lO c b=>a.aJ=3/\a.ct=c/\DO C i 1 2 a.aG/\a.aG.v=c/\a.aG.b=b
 | .iG c b t=>a.aJ=3/\a.ct=c/\DO C i 1 3 a.aG/\a.aG.v=c/\a.aG.b=b/\a.aG.t=t
 | .iH c b t=>a.aJ=3/\a.ct=c/\DO C i 1 4 a.aG/\a.aG.v=c/\a.aG.b=b/\a.aG.t=t/\a.aG.a=bs i cj
 | .grow c b t cc=>a.aJ=3/\a.ct=c/\DO C i 1 5 a.aG/\a.aG.v=c/\a.aG.b=b/\a.aG.t=t/\a.aG.a=bs i cj/\a.aG.c=cc/\a.aG.c2=Am.cW C cc
 | .fH c b t cc=>a.aJ=3/\a.ct=c/\DO C i 1 6 a.aG/\a.aG.v=c/\a.aG.b=b/\a.aG.t=t/\a.aG.a=bs i cj/\a.aG.c=cc/\a.aG.c2=Am.cW C cc/\a.aG.a2=bs i (cj+1)
 | .dZ c b t cc n=>a.aJ=3/\a.ct=c/\DO C i 1 7 a.aG/\a.aG.v=c/\a.aG.b=b/\a.aG.t=t/\a.aG.a=bs i cj/\a.aG.c=cc/\a.aG.c2=Am.cW C cc/\a.aG.a2=bs i (cj+1)/\a.aG.i=n
 | .ew c b t cc n x=>a.aJ=3/\a.ct=c/\DO C i 1 8 a.aG/\a.aG.v=c/\a.aG.b=b/\a.aG.t=t/\a.aG.a=bs i cj/\a.aG.c=cc/\a.aG.c2=Am.cW C cc/\a.aG.a2=bs i (cj+1)/\a.aG.i=n/\a.aG.x=x
 | .fI c b t cc=>a.aJ=3/\a.ct=c/\DO C i 1 9 a.aG/\a.aG.v=c/\a.aG.b=b/\a.aG.c2=Am.cW C cc/\a.aG.a2=bs i (cj+1)
 | .ef c b cc=>a.aJ=3/\a.ct=c/\DO C i 1 10 a.aG/\a.aG.v=c/\a.aG.b=b/\a.aG.a=bs i cj/\a.aG.c=cc
 | .gS c b=>a.aJ=3/\a.ct=c/\DO C i 1 11 a.aG/\a.aG.b=b
 | .pG=>a.aJ=4/\LO C i 2 8 1 a.Nf
 | .ji j=>a.aJ=4/\∃k:Nat,LO C i 2 9 k a.Nf/\ring C i j k
 | .j5 j=>a.aJ=4/\∃k:Nat,LO C i 2 7 k a.Nf/\ring C i j k
 | .oV=>a.aJ=8/\DO C i 2 1 a.aG/\a.aG.i=0/\a.aG.nM=false
 | .RU b=>a.aJ=8/\DO C i 2 3 a.aG/\a.aG.i=0/\a.aG.nM=false/\a.aG.b=b
 | .gM b=>a.aJ=8/\DO C i 2 11 a.aG/\a.aG.i=0/\a.aG.nM=false/\a.aG.b=b/\a.aG.a=bs i cj
 | .nU b=>a.aJ=8/\DO C i 2 2 a.aG/\a.aG.b=b/\a.aG.a=bs i cj/\a.aG.nM=false
 | .gl t=>a.aJ=8/\DO C i 2 11 a.aG/\a.aG.i=1/\a.aG.t=t/\a.aG.b<t/\a.aG.nM=false
 | .jS b t=>a.aJ=8/\DO C i 2 4 a.aG/\a.aG.i=1/\a.aG.b=b/\a.aG.t=t/\a.aG.a=bs i cj
 | .ij b t cc=>a.aJ=8/\DO C i 2 12 a.aG/\a.aG.i=1/\a.aG.b=b/\a.aG.t=t/\a.aG.a=bs i cj/\a.aG.c=cc
 | .jA b t x=>a.aJ=8/\DO C i 2 13 a.aG/\a.aG.i=1/\a.aG.b=b/\a.aG.t=t/\a.aG.x=x
 | .iL t x nM=>a.aJ=8/\DO C i 2 11 a.aG/\a.aG.i=1/\a.aG.t=t/\t<=a.aG.b/\a.aG.x=x/\a.aG.nM=nM
 | .gG=>a.aJ=9/\a.tries=tr/\tr<3
 | .jT v t=>a.aJ=10/\(a.tries=tr/\tr<3)/\a.eB=v/\DO C v 3 1 a.aG/\a.aG.t=t
 | .gN v t=>a.aJ=10/\(a.tries=tr/\tr<3)/\a.eB=v/\DO C v 3 3 a.aG/\a.aG.t=t
 | .gp v t g=>a.aJ=10/\(a.tries=tr/\tr<3)/\a.eB=v/\DO C v 3 4 a.aG/\a.aG.t=t/\a.aG.a=bs v g
 | .eZ v t g cc=>a.aJ=10/\(a.tries=tr/\tr<3)/\a.eB=v/\DO C v 3 12 a.aG/\a.aG.t=t/\a.aG.a=bs v g/\a.aG.c=cc
 | .fJ v t x=>a.aJ=10/\(a.tries=tr/\tr<3)/\a.eB=v/\DO C v 3 13 a.aG/\a.aG.t=t/\a.aG.x=x
 | .nV=>a.aJ=11/\a.tries=tr/\a.Nf.cu=3/\a.Nf.aC=3/\a.Nf.bx=2+10*(C.F:Int)/\a.Nf.bP=C.N
 | .flag=>(a.aJ=9/\C.N=1)∨(RO C i 1 0 a/\a.parked=false)
 | .sleep=>RO C i 2 0 a/\a.parked=false
 | .jM=>RO C i 3 0 a/\a.parked=false
 | .od j=>a.parked=false/\∃k:Nat,RO C i 4 k a/\ring C i j k/\DO C j 4 2 a.Nf.look
 | .nl j t=>a.parked=false/\∃k:Nat,RO C i 4 k a/\ring C i j k/\DO C j 4 1 a.Nf.look/\a.Nf.look.t=t
 | .parked=>a.parked=true/\∃k:Int,RO C i 5 k a
 | .back h=>a.parked=false/\∃k:Int,RO C i 6 k a/\a.Nf.gB=if h then 17 else 16
 | .j6 h=>a.parked=false/\∃k:Int,RO C i 7 k a/\a.Nf.gB=if h then 17 else 16
def fi(h:Option Nat):Int:=match h with
 | some f=>(f:Int)
 | none=>-1
structure Ed(C:Am.dH)(s:Am.St)(i:Nat)(a:aW):Prop where
 self:a.bp=i
 an:a.an=fi (s.hold i)
 ph:ph C i (s.pc i) (s.tries i) (s.cur i) s.base a
structure vw(x:Am.Fr)(f:Nat)(t:aO):Prop where
 fn:t.fn=x.fn
 ag:t.ag=x.ag
 par:t.parent=if f=0 then -1 else(x.par:Int)
 slot:t.slot=x.slot
 aR:t.aR=x.aR
 gH:t.gH=x.gH
 bK:∀r,r<16->GX.ag t.bK r=x.bK r
structure xq(C:Am.dH)(p:ay)(s:Am.St)(S:af):Prop where
 code:S.code=p.aB
 res:S.result=0
 tb:S.cU=1
 tf:S.cw=C.F
 lb:S.dM=2+10*(C.F:Int)
 lw:S.bT=C.N
 dl:S.dW.length=C.N
 dq:∀v,v<C.N->GX.ag S.dW v=rV C v
 tl:S.ak.length=C.F
 tk:∀f,f<s.nf->vw (s.fr f) f (GX.ag S.ak f)
 wl:S.aa.length=C.N
 wk:∀i,i<C.N->Ed C s i (GX.ag S.aa i)
 left:S.left=s.val.isSome
 val:S.value=s.val.getD 0
section
variable {C:Am.dH}{s:Am.St}{p:ay}{S:af}{i:Nat}
theorem ph.keep{j:Nat}{bs bs':Nat->Nat->Int}{pc:Am.Pc}{tr cj:Nat}{a:aW}(h:ph C j pc tr cj bs a)(h1:∀g,g<=cj+1->bs' j g=bs j g)(h2:∀v t g,pc= .gp v t g->bs' v g=bs v g)(h3:∀v t g cc,pc= .eZ v t g cc->bs' v g=bs v g):ph C j pc tr cj bs' a:=by
 unfold ph at h⊢
 have e0:=h1 cj (by omega)
 have e1:=h1 (cj+1) (by omega)
 cases pc<;>first
  | exact h
  | (simp only[e0,e1]at h⊢;exact h)
  | (simp only[h2 _ _ _ rfl]at h⊢;exact h)
  | (simp only[h3 _ _ _ _ rfl]at h⊢;exact h)
end
section
variable {K:Nat}{M M':ae}{o:aK}{v x:Int}
theorem HN(h:o.kind≠0):¬o=(⟨0,0,0,0,0,0,0,0,0,0,0,0,0,false,0,0⟩:aK):=λe=>h (by rw[e])
theorem fL{k a:Int}(hk:o.kind=k)(ha:o.ag=a)(Bh:k≠0)(ha0:a≠0)(hx:aH o M=some (v,0,M')){o':aK}
 (hn:(if k=1 then bR o v else if k=2 then bS o v else if k=3 then Oa o v else eY o v)=some o'):bX M o=some (o',M'):=by
 unfold bX Pk
 rw[aj (HN (by rw[hk];exact Bh)),aj (by rw[ha];exact ha0),bu,hx,bf,au rfl,hk]
 split at hn
 ·rename_i h;rw[au h,hn,ai]
 ·rename_i h;rw[aj h]
  split at hn
  ·rename_i h;rw[au h,hn,ai]
  ·rename_i h;rw[aj h]
   split at hn
   ·rename_i h;rw[au h,hn,ai]
   ·rename_i h;rw[aj h,hn,ai]
theorem rW(hk:o.kind≠0)(ha:o.ag≠0):gF o=some (0,0):=by
 unfold gF Pk;rw[aj (HN hk),aj ha]
theorem tv(hk:o.kind≠0)(ha:o.ag=0):gF o=some (o.code,o.value):=by
 unfold gF Pk;rw[aj (HN hk),au ha]
theorem xu{a c n:Int}(ha0:0<=a)(ha:a<=1048576)(hc:1<=c)(HC:c<=4096)(hn:-1000000000000<=n/\n<=1000000000000):gX a c n=some (a+1+(Am.ix n c:Int)):=by
 have e1:=af8 n (b:=c) (by omega)
 have e2:=acH n (show 0<c by omega)
 have e3:(Am.ix n c:Int)=n%c:=by unfold Am.ix;omega
 have e4:n.tmod c=if 0<=n∨c∣n then n%c else n%c-c:=by
  rw[Int.tmod_eq_emod];split
  ·omega
  ·rw[show((c.natAbs:Nat):Int)=c by omega]
 unfold gX
 rw[iQ_,e3]
 by_cases h:0<=n∨c∣n
 ·rw[e4,au h,iO_,bz (x:=a+1) (by omega),bz (by omega)]
 ·rw[e4,aj h,iQ_,bz (x:=a+1) (by omega),bz (x:=n%c-c+c) (by omega),bz (by omega)];congr 1;omega
end
section
variable {C:Am.dH}{s:Am.St}{M:ae}{sz n:Nat}{o:aK}{i:Nat}
theorem AR.cast(h:AR C s M sz n)(hz:Am.SZ C s){a:Am.jr}(ha:Am.n3 C s a){x:Int}(hx:x=Am.place C s a):wi x=Am.place C s a:=by
 have p:=Am.nu hz ha
 have f:=h.fit
 have s1:=h.s1
 rw[hx,bz (by omega)]
theorem mA(s:Am.St)(i:Nat):s.cur i<=Am.gen s i:=by unfold Am.gen;omega
theorem oA(h:AR C s M sz n)(hz:Am.SZ C s)(hn:n<=2000000000)(hi:i<C.N)(ha:o.ag=1)(hb:o.jw=Am.jU C i):aH o M=some (s.mem (.bot i),0,nt M M.cell 0 (Am.place C s (.bot i)) (s.mem (.bot i)) 0 true):=by
 unfold aH
 rw[au ha,h.cast hz (a:=.bot i) hi (by rw[hb];rfl),kO h hz hn (a:=.bot i) hi,bf]
theorem oB(h:AR C s M sz n)(hz:Am.SZ C s)(hn:n<=2000000000)(hi:i<C.N)(ha:o.ag=2)(hb:o.jw=Am.jU C i):aH o M=some (s.mem (.top i),0,nt M M.cell 0 (Am.place C s (.top i)) (s.mem (.top i)) 0 true):=by
 unfold aH
 rw[iM_ ha,au ha,h.cast hz (a:=.top i) hi (by rw[hb,Int.add_zero];rfl),kO h hz hn (a:=.top i) hi,bf]
theorem qH(h:AR C s M sz n)(hz:Am.SZ C s)(hn:n<=2000000000)(hi:i<C.N)(ha:o.ag=3)(hb:o.jw=Am.jU C i):aH o M=some (s.mem (.buf i),0,nt M M.cell 0 (Am.place C s (.buf i)) (s.mem (.buf i)) 0 true):=by
 unfold aH
 rw[iM_ ha,iM_ ha,au ha,h.cast hz (a:=.buf i) hi (by rw[hb];rfl),kO h hz hn (a:=.buf i) hi,bf]
theorem Yf{g:Nat}(h:AR C s M sz n)(hz:Am.SZ C s)(hn:n<=2000000000)(hi:i<C.N)(hg:g<=Am.gen s i)(ha:o.ag=4)(hb:o.a=s.base i g):aH o M=some (s.mem (.cap i g),0,nt M M.cell 0 (Am.place C s (.cap i g)) (s.mem (.cap i g)) 0 true):=by
 unfold aH
 rw[iM_ ha,iM_ ha,iM_ ha,au ha,hb,show s.base i g=Am.place C s (.cap i g)from rfl,kO h hz hn (a:=.cap i g) ⟨hi,hg⟩,bf]
theorem yL{k:Nat}(h:AR C s M sz n)(hn:n<=2000000000)(ha:o.ag=5)(hk:o.c2=k)(hf:M.cell.length+(1+k)<=sz):aH o M=some (s.size,0,{nt M (M.cell++List.replicate (1+k) 0) 4 s.size ((1+k:Nat):Int) 0 true with dL:=s.size+((1+k:Nat):Int)}):=by
 have s1:=h.s1
 unfold aH
 rw[iM_ ha,iM_ ha,iM_ ha,iM_ ha,au ha,hk,show wi (1+(k:Int))=((1+k:Nat):Int) by rw[bz (by omega)];omega,Ec h hn (by omega) hf,bf]
theorem tw{g:Nat}(h:AR C s M sz n)(hz:Am.SZ C s)(hn:n<=2000000000)(hi:i<C.N)(hg:g<=Am.gen s i)(ha:o.ag=6)(hb:o.a2=s.base i g):aH o M=some (0,0,nt M (M.cell.set (Am.place C s (.cap i g)).toNat o.c2) 1 (Am.place C s (.cap i g)) o.c2 0 true):=by
 unfold aH
 rw[iM_ ha,iM_ ha,iM_ ha,iM_ ha,iM_ ha,au ha,hb,show s.base i g=Am.place C s (.cap i g)from rfl,jF h hz hn (a:=.cap i g) ⟨hi,hg⟩,bJ]
theorem mH(h:AR C s M sz n)(hz:Am.SZ C s)(hC:C.OK)(hi:i<C.N){g:Nat}(hg:g<=Am.gen s i){c x:Int}(hc:c=Am.js C g)(hx:-1000000000000<=x/\x<=1000000000000):gX (s.base i g) c x=some (Am.place C s (.el i g (Am.ix x c)))/\Am.n3 C s (.el i g (Am.ix x c)):=by
 have b1:=h.yK hz (a:=.cap i g) ⟨hi,hg⟩
 have p:=Am.nu hz (a:=.cap i g) ⟨hi,hg⟩
 have c1:=Am.oz hC g
 have c2:=Am.tj hC g
 have m4:=hC.m4
 have e2:=acH x (show 0<c by omega)
 have e1:=af8 x (b:=c) (by omega)
 refine⟨xu p.1 (by have:=b1.2.1;show Am.place C s (.cap i g)<=_;omega) (by omega) (by omega) hx,hi,hg,?_⟩
 unfold Am.ix;omega
theorem yM{g:Nat}(h:AR C s M sz n)(hz:Am.SZ C s)(hC:C.OK)(hn:n<=2000000000)(hi:i<C.N)(hg:g<=Am.gen s i)(ha:o.ag=7)(hb:o.a=s.base i g)(hc:o.c=Am.js C g)(hx:-1000000000000<=o.i/\o.i<=1000000000000) :
 aH o M=some (s.mem (.el i g (Am.ix o.i o.c)),0,nt M M.cell 0 (Am.place C s (.el i g (Am.ix o.i o.c))) (s.mem (.el i g (Am.ix o.i o.c))) 0 true):=by
 obtain⟨e1,e2⟩:=mH h hz hC hi hg hc hx
 unfold aH
 rw[iM_ ha,iM_ ha,iM_ ha,iM_ ha,iM_ ha,iM_ ha,au ha,hb,e1,ai,kO h hz hn e2,bf]
theorem yN{g:Nat}(h:AR C s M sz n)(hz:Am.SZ C s)(hC:C.OK)(hn:n<=2000000000)(hi:i<C.N)(hg:g<=Am.gen s i)(ha:o.ag=8)(hb:o.a2=s.base i g)(hc:o.c2=Am.js C g)(hx:-1000000000000<=o.i/\o.i<=1000000000000) :
 aH o M=some (0,0,nt M (M.cell.set (Am.place C s (.el i g (Am.ix o.i o.c2))).toNat o.x) 1 (Am.place C s (.el i g (Am.ix o.i o.c2))) o.x 0 true):=by
 obtain⟨e1,e2⟩:=mH h hz hC hi hg hc hx
 unfold aH
 rw[iM_ ha,iM_ ha,iM_ ha,iM_ ha,iM_ ha,iM_ ha,iM_ ha,au ha,hb,e1,ai,jF h hz hn e2,bJ]
theorem ZC(h:AR C s M sz n)(hz:Am.SZ C s)(hn:n<=2000000000)(hi:i<C.N)(ha:o.ag=9)(hb:o.jw=Am.jU C i):aH o M=some (0,0,nt M (M.cell.set (Am.place C s (.buf i)).toNat o.a2) 1 (Am.place C s (.buf i)) o.a2 0 true):=by
 unfold aH
 rw[iM_ ha,iM_ ha,iM_ ha,iM_ ha,iM_ ha,iM_ ha,iM_ ha,iM_ ha,au ha,h.cast hz (a:=.buf i) hi (by rw[hb];rfl),jF h hz hn (a:=.buf i) hi,bJ]
theorem yO{g:Nat}(h:AR C s M sz n)(hz:Am.SZ C s)(hC:C.OK)(hn:n<=2000000000)(hi:i<C.N)(hg:g<=Am.gen s i)(ha:o.ag=10)(hb:o.a=s.base i g)(hc:o.c=Am.js C g)(hx:-1000000000000<=o.b/\o.b<=1000000000000) :
 aH o M=some (0,0,nt M (M.cell.set (Am.place C s (.el i g (Am.ix o.b o.c))).toNat o.v) 1 (Am.place C s (.el i g (Am.ix o.b o.c))) o.v 0 true):=by
 obtain⟨e1,e2⟩:=mH h hz hC hi hg hc hx
 unfold aH
 rw[iM_ ha,iM_ ha,iM_ ha,iM_ ha,iM_ ha,iM_ ha,iM_ ha,iM_ ha,iM_ ha,au ha,hb,e1,ai,jF h hz hn e2,bJ]
theorem lF(h:AR C s M sz n)(hz:Am.SZ C s)(hn:n<=2000000000)(hi:i<C.N)(ha:o.ag=11)(hb:o.jw=Am.jU C i){v:Int}(hv:OW o=some v):aH o M=some (0,0,nt M (M.cell.set (Am.place C s (.bot i)).toNat v) 1 (Am.place C s (.bot i)) v 0 true):=by
 unfold aH
 rw[iM_ ha,iM_ ha,iM_ ha,iM_ ha,iM_ ha,iM_ ha,iM_ ha,iM_ ha,iM_ ha,iM_ ha,au ha,hv,ai,h.cast hz (a:=.bot i) hi (by rw[hb];rfl),jF h hz hn (a:=.bot i) hi,bJ]
theorem rX{g:Nat}{x:Int}(h:AR C s M sz n)(hz:Am.SZ C s)(hC:C.OK)(hn:n<=2000000000)(hi:i<C.N)(hg:g<=Am.gen s i)(ha:o.ag=12)(hb:o.a=s.base i g)(hc:o.c=Am.js C g)(hk:x=if o.kind=2 then o.b else o.t)(hx:-1000000000000<=x/\x<=1000000000000) :
 aH o M=some (s.mem (.el i g (Am.ix x o.c)),0,nt M M.cell 0 (Am.place C s (.el i g (Am.ix x o.c))) (s.mem (.el i g (Am.ix x o.c))) 0 true):=by
 obtain⟨e1,e2⟩:=mH h hz hC hi hg hc hx
 have e3:(if o.kind=2 then some o.b else some o.t)=some x:=by rw[hk];split<;>rfl
 unfold aH
 rw[iM_ ha,iM_ ha,iM_ ha,iM_ ha,iM_ ha,iM_ ha,iM_ ha,iM_ ha,iM_ ha,iM_ ha,iM_ ha,au ha,e3,ai,hb,e1,ai,kO h hz hn e2,bf]
theorem uI(h:AR C s M sz n)(hz:Am.SZ C s)(hn:n<=2000000000)(hi:i<C.N)(ha:o.ag=13)(hb:o.jw=Am.jU C i)(ht:-1000000000000<=o.t/\o.t<=1000000000000):aH o M=some (if s.mem (.top i)=o.t then 1 else 0,0,nt M (if s.mem (.top i)=o.t then M.cell.set (Am.place C s (.top i)).toNat (o.t+1)else M.cell) 2 (Am.place C s (.top i)) o.t (o.t+1) (s.mem (.top i)==o.t)):=by
 unfold aH
 rw[iM_ ha,iM_ ha,iM_ ha,iM_ ha,iM_ ha,iM_ ha,iM_ ha,iM_ ha,iM_ ha,iM_ ha,iM_ ha,iM_ ha,bz (x:=o.t+1) (by omega),h.cast hz (a:=.top i) hi (by rw[hb,Int.add_zero];rfl),xp h hz hn (a:=.top i) hi,bf]
 by_cases e:s.mem (.top i)=o.t
 ·rw[au (by rw[e];simp),au e,au e]
 ·rw[aj (by simpa using e),aj e,aj e]
end
def mL:Option Am.Ev->ah
 | none=>⟨0,0,0,0,0,0⟩
 | some e=>⟨0,0,e.kind,e.an,e.x,e.v⟩
def xw(i:Nat):Option Am.Ev->ah
 | none=>⟨0,0,0,0,0,0⟩
 | some e=>⟨0,i,e.kind,e.an,e.x,e.v⟩
def xx(e:Option Am.Ev):Prop:=match e with
 | none=>True
 | some e=>e.kind≠0
def Ai(C:Am.dH)(s:Am.St)(w:Int)(a:Am.Acc):az:=⟨w,a.kind,Am.place C s a.a,a.x,a.y,a.ok⟩
def Lg(C:Am.dH)(s:Am.St)(M M':ae)(acc:Option Am.Acc):Prop:=
 M'.lK=M.lK/\M'.watched=M.watched/\M'.log=if M.watched=true then M.log++(acc.toList.map (Ai C s M.lK))else M.log
def cY(C:Am.dH)(p:ay)(sz n:Nat)(M:ae)(o:Am.Out)(r:Option (ah×af×ae)):Prop:=
 ∃S' M',r=some (mL o.ev,S',M')/\xq C p o.s S'/\AR C o.s M' sz (n+1)/\Lg C o.s M M' o.acc/\xx o.ev
structure j0(C:Am.dH)(p:ay)(s:Am.St)(S:af)(M:ae)(sz n:Nat):Prop where
 ok:C.OK
 dh:xq C p s S
 ar:AR C s M sz n
 z:Am.SZ C s
 bd:Am.BD s n
 dt:Am.DT C s
 fi:(Am.view s).FI C.N C.F
 fr:Am.FR C s
 n:n<=1000000000
 vd:Valid p
 cf:C=cfg p C.N C.F C.first C.most
 room :∃G,(sz:Int)=Am.S0 C+C.N*Am.tot C G/\Am.js C G=C.most
section
variable {K:Nat}{C:Am.dH}{p:ay}{s:Am.St}{S:af}{M:ae}{sz n i:Nat}{D:aA}
theorem Lg.nt{s':Am.St}{c:List Int}{k:Nat}{a:Am.jr}{x y pl:Int}{ok:Bool}(h:Am.place C s' a=pl):Lg C s' M (nt M c k pl x y ok) (some ⟨k,a,x,y,ok⟩):=by
 refine⟨rfl,rfl,?_⟩
 show(if M.watched=true then M.log++[_]else M.log)=_
 simp only[Option.toList_some,afZ,af5,Ai,h]
theorem Lg.none_{s':Am.St}:Lg C s' M M none:=by
 refine⟨rfl,rfl,?_⟩
 simp
def Ok(S:af)(i:Nat)(a:aW):af:={S with aa:=S.aa.set i a}
abbrev act(S:af)(i:Nat):aW:=ag S.aa i
theorem da(i:Nat)(a:aW):(Ok S i a).aa.length=S.aa.length:=acG
theorem eN{a:aW}(h:i<S.aa.length):act (Ok S i a) i=a:=by
 show ag (S.aa.set i a) i=a;rw[eX h,au rfl]
theorem rY{a b:aW}:Ok (Ok S i a) i b=Ok S i b:=by
 show {S with aa:=(S.aa.set i a).set i b}=_;rw[agu];rfl
theorem xq.act{s':Am.St}{a:aW}{q:Am.Pc}(h:xq C p s S)(ht:Am.DT C s)(hi:i<C.N)(ha:Ed C s' i a)(HO:s'.pc=Am.bq s.pc i q)(hh:∀j,j≠i->s'.hold j=s.hold j)(vx:∀j,j≠i->s'.tries j=s.tries j)
 (hc:∀j,j≠i->s'.cur j=s.cur j) (hb:∀j g,(j≠i∨g<=s.cur i)->s'.base j g=s.base j g) (hf:s'.fr=s.fr) (hn:s'.nf=s.nf) (hv:s'.val=s.val):xq C p s' (Ok S i a):=by
 have hl:=h.wl
 refine⟨h.code,h.res,h.tb,h.tf,h.lb,h.lw,h.dl,h.dq,h.tl,λf KP=>by rw[hf];exact h.tk f (hn▸ KP),by rw[da];exact h.wl,λj hj => ?_,by rw[hv];exact h.left,by rw[hv];exact h.val⟩
 show Ed C s' j (GX.ag (S.aa.set i a) j)
 by_cases e:j=i
 ·subst e;rw[eX (by omega),au rfl];exact ha
 ·rw[eX (by omega),aj e]
  obtain⟨w1,w2,w3⟩:=h.wk j hj
  have ep:s'.pc j=s.pc j:=by rw[HO];exact Am.aI e
  refine⟨w1,by rw[hh j e];exact w2,?_⟩
  rw[ep,vx j e,hc j e]
  have T:=ht.2 j hj
  refine w3.keep (λg _=>hb j g (.inl e)) (λv t g hq => ?_) (λv t g cc hq => ?_)
  ·unfold Am.Th at T;rw[hq]at T;simp only at T
   by_cases ev:v=i
   ·subst ev;exact hb v g (.inr T.2.2.2.1)
   ·exact hb v g (.inl ev)
  ·unfold Am.Th at T;rw[hq]at T;simp only at T
   by_cases ev:v=i
   ·subst ev;exact hb v g (.inr T.2.2.2.1)
   ·exact hb v g (.inl ev)
theorem jG{o':aK}{M':ae}{c v:Int}(h1:bX M (act S i).aG=some (o',M'))(h2:gF o'=some (c,v)) :
 fg S M (i:Int)=some (c,v,Ok S i {act S i with aG:=o' },M'):=by
 unfold fg OV MR
 rw[Zi,h1,bJ]
 simp only
 rw[h2,bJ];rfl
theorem qJ{o':aV}{M':ae}{c v:Int}(h1:bg M (act S i).bA=some (o',M'))(h2:dr o'=some (c,v)) :
 bQ S M (i:Int)=some (c,v,Ok S i {act S i with bA:=o' },M'):=by
 unfold bQ OV MR
 rw[Zi,h1,bJ]
 simp only
 rw[h2,bJ];rfl
theorem kF{o':aX}{M':ae}{c v:Int}(h1:bI M (act S i).Nf=some (o',M'))(h2:gY o'=some (c,v)) :
 dP S M (i:Int)=some (c,v,Ok S i {act S i with Nf:=o' },M'):=by
 unfold dP OV MR
 rw[Zi,h1,bJ]
 simp only
 rw[h2,bJ];rfl
theorem j0.lU(b:j0 C p s S M sz n)(hi:i<C.N):aZ (i:Int) S.aa.length:=⟨by omega,by rw[b.dh.wl];omega⟩
theorem j0.wl(b:j0 C p s S M sz n)(hi:i<C.N):i<S.aa.length:=by rw[b.dh.wl];exact hi
theorem j0.cN(b:j0 C p s S M sz n):n<=2000000000:=by have:=b.n;omega
theorem j0.qD(b:j0 C p s S M sz n){x:Int}(h:x∈Am.cr (s.pc i)):-1000000000000<=x/\x<=1000000000000:=by
 have:=b.bd.r i x h;have hn:=b.n;unfold Am.qE at this;omega
theorem j0.rT(b:j0 C p s S M sz n){a:Am.jr}(h:a.rT=true):-1000000000000<=s.mem a/\s.mem a<=1000000000000:=by
 have:=b.bd.m a h;have hn:=b.n;unfold Am.qE at this;omega
theorem xy{s':Am.St}{q:Am.Pc}(h:s'.pc=Am.bq s.pc i q)(hc:s'.cur=s.cur)(hg:Am.dJ q=Am.dJ (s.pc i)):Am.gen s'=Am.gen s:=by
 funext j;unfold Am.gen;rw[h,hc,Am.bM];split
 ·next e=>rw[e,hg]
 ·rfl
theorem xz(C:Am.dH){a b:Nat}(h:a<=b):Am.tot C a<=Am.tot C b:=by
 induction b with
 | zero=>rw[show a=0 by omega];exact aea _
 | succ b ih =>
  by_cases e:a=b+1
  ·rw[e];exact aea _
  ·have:=ih (by omega);show _<=Am.tot C b+1+Am.js C (b+1);omega
theorem rZ{G:Nat}(hz:Am.SZ C s)(h1:(sz:Int)=Am.S0 C+C.N*Am.tot C G)(h2:Am.js C G=C.most):s.size<=sz:=by
 have key:∀j,j<C.N->Am.tot C (Am.gen s j)<=Am.tot C G:=λj hj=>by
  rcases agl G (Am.gen s j)with h | h
  ·have:=hz.gm j hj G h;omega
  ·exact xz C h
 have:=Am.uF (f:=λj=>Am.tot C (Am.gen s j)) (k:=Am.tot C G) (n:=C.N) key
 rw[hz.size,h1]
 have e:((C.N*Am.tot C G:Nat):Int)=(C.N:Int)*(Am.tot C G:Int):=by simp
 omega
theorem cY.mk{a:aW}{M':ae}{o:Am.Out}{q:Am.Pc}{r:Option (ah×af×ae)}(b:j0 C p s S M sz n)(hi:i<C.N)(hr:r=some (mL o.ev,Ok S i a,M'))
 (sg:a.bp=i) (hfr:a.an=fi (o.s.hold i)) (hq:o.s.pc=Am.bq s.pc i q) (HP:ph C i q (o.s.tries i) (o.s.cur i) o.s.base a) (har:AR C o.s M' sz (n+1)) (CE:Lg C o.s M M' o.acc) (qX:xx o.ev)
 (hh:∀j,j≠i->o.s.hold j=s.hold j:=by intros;rfl) (vx:∀j,j≠i->o.s.tries j=s.tries j:=by intros;rfl) (hc:∀j,j≠i->o.s.cur j=s.cur j:=by intros;rfl)
 (hb:∀j g,(j≠i∨g<=s.cur i)->o.s.base j g=s.base j g:=by intros;rfl) (hf:o.s.fr=s.fr:=by rfl) (hn:o.s.nf=s.nf:=by rfl) (hv:o.s.val=s.val:=by rfl):cY C p sz n M o r:=
 ⟨_,_,hr,b.dh.act b.dt hi ⟨sg,hfr,by rw[hq,Am.aL];exact HP⟩ hq hh vx hc hb hf hn hv,har,CE,qX⟩
theorem j0.kR(b:j0 C p s S M sz n){s':Am.St}{q:Am.Pc}(hq:s'.pc=Am.bq s.pc i q)(hg:Am.dJ q=Am.dJ (s.pc i))(k a x y:Int)(ok:Bool)(h1:s'.mem=s.mem:=by rfl)(h2:s'.size=s.size:=by rfl)(h3:s'.base=s.base:=by rfl)(h4:s'.cur=s.cur:=by rfl) :
 AR C s' (nt M M.cell k a x y ok) sz (n+1):=b.ar.same h1 h2 h3 (xy hq h4 hg) k a x y ok
theorem j0.lR(b:j0 C p s S M sz n){s':Am.St}{q:Am.Pc}{c:Am.jr}{v:Int}(hq:s'.pc=Am.bq s.pc i q)(hg:Am.dJ q=Am.dJ (s.pc i))(hb:Am.n3 C s c)(k a x y:Int)(ok:Bool)(h1:s'.mem=Am.bq s.mem c v:=by rfl)(h2:s'.size=s.size:=by rfl)(h3:s'.base=s.base:=by rfl)(h4:s'.cur=s.cur:=by rfl) :
 AR C s' (nt M (M.cell.set (Am.place C s c).toNat v) k a x y ok) sz (n+1):=b.ar.set b.z hb h1 h2 h3 (xy hq h4 hg) k a x y ok
end
section
variable {K:Nat}{C:Am.dH}{p:ay}{s:Am.St}{S:af}{M:ae}{sz n i:Nat}{D:aA}{d:Int}
theorem WR(b:j0 C p s S M sz n)(hi:i<C.N){c:Nat}(hg:(Am.view s).g i= .push c):c<s.nf:=by
 have z:=b.fi.ps i c hi hg
 rcases agl c s.nf with h | h
 ·exact h
 ·have:=b.fi.free c h;rw[this]at z;exact absurd z.2.1 (by simp)
theorem j0.task(b:j0 C p s S M sz n){f:Nat}(hf:f<s.nf):aZ (f:Int) S.ak.length:=⟨by omega,by rw[b.dh.tl];have:s.nf<=C.F:=b.fi.RV;omega⟩
theorem gO(b:j0 C p s S M sz n)(hi:i<C.N){c:Nat}(hc:(act S i).ct=c)(hg:(Am.view s).g i= .push c){o':aK}{M':ae}(h1:bX M (act S i).aG=some (o',M'))(h2:o'.kind=1)(h3:o'.ag≠0) :
 aU S M (i:Int) D=some (mL none,Ok S i {act S i with aG:=o' },M'):=by
 have hin:aZ (act S i).ct S.ak.length:=by rw[hc];exact b.task (WR b hi hg)
 unfold aU bE OV MR
 rw[Zi,au hin,OU,au hin,jG h1 (rW (by rw[h2];decide) h3),bZ,au rfl];rfl
section
variable (b:j0 C p s S M sz n)(hi:i<C.N)
include b hi
theorem xA{c:Nat}(hp:s.pc i= .nk c):cY C p sz n M (Am.step C s i d) (aU S M (i:Int) D):=by
 obtain⟨w1,w2,w3⟩:=b.dh.wk i hi
 rw[hp]at w3
 obtain⟨a1,a2,⟨o1,o2,o3,o4⟩,a3⟩:=w3
 have hs:=fL o1 o2 (by decide) (by decide) (oA b.ar b.z b.cN hi o2 o3) (o':={(act S i).aG with ag:=2,b:=s.mem (.bot i)}) (by
  rw[au rfl];unfold bR;rw[au o2])
 unfold Am.step;rw[hp];simp only
 exact .mk b hi (gO b hi a2 (by show Am.sig (s.pc i)=_;rw[hp];rfl) hs o1 (by show(2:Int)≠0;decide)) w1 w2 rfl ⟨a1,a2,⟨o1,rfl,o3,o4⟩,a3,rfl⟩ (b.kR rfl (by rw[hp];rfl) _ _ _ _ _) (Lg.nt rfl) trivial
theorem xB{c:Nat}{bb:Int}(hp:s.pc i= .lO c bb):cY C p sz n M (Am.step C s i d) (aU S M (i:Int) D):=by
 obtain⟨w1,w2,w3⟩:=b.dh.wk i hi
 rw[hp]at w3
 obtain⟨a1,a2,⟨o1,o2,o3,o4⟩,a3,a4⟩:=w3
 have hs:=fL o1 o2 (by decide) (by decide) (oB b.ar b.z b.cN hi o2 o3) (o':={(act S i).aG with ag:=3,t:=s.mem (.top i)}) (by
  rw[au rfl];unfold bR;rw[iM_ o2,au o2])
 unfold Am.step;rw[hp];simp only
 exact .mk b hi (gO b hi a2 (by show Am.sig (s.pc i)=_;rw[hp];rfl) hs o1 (by show(3:Int)≠0;decide)) w1 w2 rfl ⟨a1,a2,⟨o1,rfl,o3,o4⟩,a3,a4,rfl⟩ (b.kR rfl (by rw[hp];rfl) _ _ _ _ _) (Lg.nt rfl) trivial
theorem tA{c:Nat}{bb t:Int}(hp:s.pc i= .iG c bb t):cY C p sz n M (Am.step C s i d) (aU S M (i:Int) D):=by
 obtain⟨w1,w2,w3⟩:=b.dh.wk i hi
 rw[hp]at w3
 obtain⟨a1,a2,⟨o1,o2,o3,o4⟩,a3,a4,a5⟩:=w3
 have hs:=fL o1 o2 (by decide) (by decide) (qH b.ar b.z b.cN hi o2 o3) (o':={(act S i).aG with ag:=4,a:=s.mem (.buf i)}) (by
  rw[au rfl];unfold bR;rw[iM_ o2,iM_ o2,au o2])
 unfold Am.step;rw[hp];simp only
 exact .mk b hi (gO b hi a2 (by show Am.sig (s.pc i)=_;rw[hp];rfl) hs o1 (by show(4:Int)≠0;decide)) w1 w2 rfl ⟨a1,a2,⟨o1,rfl,o3,o4⟩,a3,a4,a5,(b.dt.1 i hi).nW⟩ (b.kR rfl (by rw[hp];rfl) _ _ _ _ _) (Lg.nt rfl) trivial
end
end
end Mo
end
end Go.Proofs.YtpikpffbcjpmcaaGreatDoor

/- plunderlaw11.WorkerLone answers true for every input of the bulk that the statement names, and leaves its input alone. Conditions: none. -/
import Derived.Test.YtaiffafelihaaaaGreatDoorZ0
set_option linter.unusedVariables false
set_option linter.unusedSimpArgs false
set_option linter.unusedSectionVars false
set_option maxRecDepth 100000
set_option maxHeartbeats 4000000
set_option autoImplicit true
set_option relaxedAutoImplicit true
namespace Go.Proofs.YtaiffafelihaaaaGreatDoor
open Proofs.Tryz
section
namespace Mo
open Go Go.RowKit SL GX
noncomputable section
variable {z w:World}{L:List bl}
structure cr where
 aG:Int
 A:Int
 B:Int
 C:Int
 K:Int
deriving Inhabited,DecidableEq
def cU(x:cr):List Value:=[Z x.aG,Z x.A,Z x.B,Z x.C,Z x.K]
abbrev gq(x:cr):List Value:=[Z x.aG,Z x.A,Z x.B,Z x.C,Z x.K]
abbrev lP(x:cr):Array Value:=#[Z x.aG,Z x.A,Z x.B,Z x.C,Z x.K]
abbrev gO(x:cr):Value:=.agg #[Z x.aG,Z x.A,Z x.B,Z x.C,Z x.K]
theorem iL:uD cU 5:=⟨λ_=>rfl,λx u h=>by simp only[cU,uA,uB,uC]at h;rcases h with rfl | rfl | rfl | rfl | rfl<;>rfl,gB⟩
structure aB where
 aS:Int
 dh:Int
 bQ:Int
 ai:List cr
deriving Inhabited,DecidableEq
structure bU where
 bP:List aB
 oA:List Int
 cO:Int
 de:Int
 eU:Int
 eP:Int
 cP:List Int
 eX:List Int
deriving Inhabited,DecidableEq
def UO(a:fB)(c:Nat)(x:aB):List Value:=[Z x.aS,Z x.dh,Z x.bQ,.slice a x.ai.length c]
abbrev zb(L:List bl)(va:fB)(hs:Nat->Option Addr×Nat)(l:List aB):Prop:=yf L 4 5 UO cU aB.ai va hs l
structure dZ where
 cx:Int
 dP:Int
 jQ:Int
deriving Inhabited,DecidableEq
abbrev He(x:dZ):List Value:=[Z x.cx,Z x.dP,Z x.jQ]
abbrev lV(x:dZ):Array Value:=#[Z x.cx,Z x.dP,Z x.jQ]
abbrev kI(x:dZ):Value:=.agg #[Z x.cx,Z x.dP,Z x.jQ]
abbrev NI(B:Nat)(S:dZ):bl:=pts B (.cells #[Z S.cx,Z S.dP,Z S.jQ] 27)
structure aU where
 tT:Int
 aG:Int
 Addr:Int
 A:Int
 B:Int
 OK:Bool
deriving Inhabited,DecidableEq
def gZ(x:aU):List Value:=[Z x.tT,Z x.aG,Z x.Addr,Z x.A,Z x.B,vB x.OK]
theorem uH:uD gZ 6:=⟨λ_=>rfl,λx u h=>by simp only[gZ,uA,uB,uC]at h;rcases h with rfl | rfl | rfl | rfl | rfl | rfl<;>rfl,gB⟩
structure af where
 nl:Int
 fo:Int
 cell:List Int
 log:List aU
 wB:Int
 watched:Bool
deriving Inhabited,DecidableEq
abbrev adX(B:Nat)(S:af)(a2:fB)(c2:Nat)(a3:fB)(c3:Nat):bl:=pts B (.cells #[Z S.nl,Z S.fo,.slice a2 S.cell.length c2,.slice a3 S.log.length c3,Z S.wB,vB S.watched] 78)
abbrev XD(a:fB)(c:Nat)(l:List Int):bl:=rowOf 2 1 aK (.slice a l.length c) l
abbrev UP(a:fB)(c:Nat)(l:List aU):bl:=rowOf 269 6 gZ (.slice a l.length c) l
structure aE where
 ah:List aB
deriving Inhabited,DecidableEq
abbrev sK(B:Nat)(S:aB)(a3:fB)(c3:Nat):bl:=pts B (.cells #[Z S.aS,Z S.dh,Z S.bQ,.slice a3 S.ai.length c3] 85)
structure eN where
 xd:Int
 Func:Int
 At:Int
deriving Inhabited,DecidableEq
abbrev CO(x:eN):Value:=.agg #[Z x.xd,Z x.Func,Z x.At]
abbrev wD(B:Nat)(S:cr):bl:=pts B (.cells #[Z S.aG,Z S.A,Z S.B,Z S.C,Z S.K] 132)
abbrev zu(a:fB)(c:Nat)(l:List Int):bl:=rowOf 3 1 aK (.slice a l.length c) l
def jR(x:List Int)(cs:List Value):bl:=exs λvp:fB=>exs λvr:Nat=>aD [RX (cs=[.slice vp x.length vr]),zu vp vr x]
theorem oe{x:List Int}{cs:List Value}(h:Fit z (aD (jR x cs::L)) w) :∃vp:fB,∃vr:Nat,cs=[.slice vp x.length vr]/\Fit z (aD (zu vp vr x::L)) w:=by
 unfold jR at h;obtain⟨vp,h⟩:=h.rR;obtain⟨vr,h⟩:=h.rR;have h:=h.vw;obtain⟨e,h⟩:=h.Aq;exact⟨vp,vr,e,h⟩
theorem iQ{x:List Int}{vp:fB}{vr:Nat}(h:Fit z (aD (zu vp vr x::L)) w):Fit z (aD (jR x [.slice vp x.length vr]::L)) w:=by
 unfold jR;refine Fit.mw vp<|Fit.mw vr<|Fit.uh (RX (([.slice vp x.length vr]:List Value)=[.slice vp x.length vr])::zu vp vr x::[]) L<|?_;exact h.yC rfl
abbrev LB(a:fB)(c:Nat)(l:List (List Int)):bl:=uk 28 1 jR (.slice a l.length c) l
abbrev abW(B:Nat)(S:eN):bl:=pts B (.cells #[Z S.xd,Z S.Func,Z S.At] 81)
structure wO where
 a:Int
 b:Int
 c:Int
 k:Int
 next:Bool
deriving Inhabited,DecidableEq
def gJ(x:wO):List Value:=[Z x.a,Z x.b,Z x.c,Z x.k,vB x.next]
abbrev LC(x:wO):List Value:=[Z x.a,Z x.b,Z x.c,Z x.k,vB x.next]
abbrev LD(x:wO):Value:=.agg #[Z x.a,Z x.b,Z x.c,Z x.k,vB x.next]
def yY:List wO:=[⟨1,0,0,0,true⟩,⟨1,1,0,0,true⟩,⟨1,1,1,5,true⟩,⟨3,0,0,0,false⟩,⟨1,3,0,0,true⟩,⟨2,4,0,0,true⟩,⟨0,0,0,0,true⟩,⟨1,2,0,0,true⟩,⟨1,0,0,0,true⟩,⟨1,0,0,0,false⟩]
abbrev UQ(B:Nat)(S:wO):bl:=pts B (.cells #[Z S.a,Z S.b,Z S.c,Z S.k,vB S.next] 215)
structure nV where
 F2:Int
 Eo:Int
 I1:Int
deriving Inhabited,DecidableEq
abbrev B6(x:nV):Value:=.agg #[Z x.F2,Z x.Eo,Z x.I1]
structure aV where
 J:Int
 state:Int
deriving Inhabited,DecidableEq
def dO(x:aV):List Value:=[Z x.J,Z x.state]
abbrev Hf(x:aV):List Value:=[Z x.J,Z x.state]
abbrev Hg(x:aV):Array Value:=#[Z x.J,Z x.state]
abbrev xK(x:aV):Value:=.agg #[Z x.J,Z x.state]
theorem oT:uD dO 2:=⟨λ_=>rfl,λx u h=>by simp only[dO,uA,uB,uC]at h;rcases h with rfl | rfl<;>rfl,gB⟩
theorem Hh(x y:aV):vR (dO x) (dO y)=decide (x=y):=by
 rw[Bool.eq_iff_iff];cases x;cases y;simp[dO,vR]
theorem LF:Nr Tryz.prog 221 dO:=⟨aZ,aZ,λx y=>aZ,Hh⟩
abbrev QC(B:Nat)(S:aV):bl:=pts B (.cells #[Z S.J,Z S.state] 221)
structure aX where
 fn:Int
 J:Int
 parent:Int
 slot:Int
 bD:Int
 mN:Int
 bu:List Int
deriving Inhabited,DecidableEq
def cI(x:aX):List Value:=[Z x.fn,Z x.J,Z x.parent,Z x.slot,Z x.bD,Z x.mN]++eA 16 aK x.bu
abbrev pO(x:aX):List Value:=[Z x.fn,Z x.J,Z x.parent,Z x.slot,Z x.bD,Z x.mN]++eA 16 aK x.bu
theorem bV:uD (cI) 22:=AB.enc (N:=6+16*1) (λx=>(show AB (cI x) (6+16*1)from((AB.lit 6 (by rfl)).app (HR 16 aJ _)))) gB (by rfl)
abbrev tj(a:fB)(c:Nat)(l:List aX):bl:=rowOf 100 22 cI (.slice a l.length c) l
abbrev KY(a:fB)(c:Nat)(l:List cr):bl:=rowOf 132 5 cU (.slice a l.length c) l
def mO(x:aB)(cs:List Value):bl:=exs λvp:fB=>exs λvr:Nat=>aD [RX (cs=[Z x.aS,Z x.dh,Z x.bQ,.slice vp x.ai.length vr]),KY vp vr x.ai]
theorem vV{x:aB}{cs:List Value}(h:Fit z (aD (mO x cs::L)) w) :∃vp:fB,∃vr:Nat,cs=[Z x.aS,Z x.dh,Z x.bQ,.slice vp x.ai.length vr]/\Fit z (aD (KY vp vr x.ai::L)) w:=by
 unfold mO at h;obtain⟨vp,h⟩:=h.rR;obtain⟨vr,h⟩:=h.rR;have h:=h.vw;obtain⟨e,h⟩:=h.Aq;exact⟨vp,vr,e,h⟩
theorem eY{x:aB}{vp:fB}{vr:Nat}(h:Fit z (aD (KY vp vr x.ai::L)) w):Fit z (aD (mO x [Z x.aS,Z x.dh,Z x.bQ,.slice vp x.ai.length vr]::L)) w:=by
 unfold mO;refine Fit.mw vp<|Fit.mw vr<|Fit.uh (RX (([Z x.aS,Z x.dh,Z x.bQ,.slice vp x.ai.length vr]:List Value)=[Z x.aS,Z x.dh,Z x.bQ,.slice vp x.ai.length vr])::KY vp vr x.ai::[]) L<|?_;exact h.yC rfl
abbrev rW(a:fB)(c:Nat)(l:List aB):bl:=uk 85 4 mO (.slice a l.length c) l
structure cw where
 kY:Int
 jQ:Int
deriving Inhabited,DecidableEq
def bx(x:cw):List Value:=[Z x.kY,Z x.jQ]
abbrev my(x:cw):List Value:=[Z x.kY,Z x.jQ]
abbrev pP(x:cw):Array Value:=#[Z x.kY,Z x.jQ]
abbrev hH(x:cw):Value:=.agg #[Z x.kY,Z x.jQ]
theorem fR:uD bx 2:=⟨λ_=>rfl,λx u h=>by simp only[bx,uA,uB,uC]at h;rcases h with rfl | rfl<;>rfl,gB⟩
structure cu where
 kind:Int
 J:Int
 oK:Int
 pq:Int
 v:Int
 t:Int
 b:Int
 a:Int
 c:Int
 a2:Int
 c2:Int
 i:Int
 x:Int
 Bi:Bool
 code:Int
 value:Int
deriving Inhabited,DecidableEq
def bE(x:cu):List Value:=[Z x.kind,Z x.J,Z x.oK,Z x.pq,Z x.v,Z x.t,Z x.b,Z x.a,Z x.c,Z x.a2,Z x.c2,Z x.i,Z x.x,vB x.Bi,Z x.code,Z x.value]
abbrev jB(x:cu):List Value:=[Z x.kind,Z x.J,Z x.oK,Z x.pq,Z x.v,Z x.t,Z x.b,Z x.a,Z x.c,Z x.a2,Z x.c2,Z x.i,Z x.x,vB x.Bi,Z x.code,Z x.value]
abbrev nW(x:cu):Array Value:=#[Z x.kind,Z x.J,Z x.oK,Z x.pq,Z x.v,Z x.t,Z x.b,Z x.a,Z x.c,Z x.a2,Z x.c2,Z x.i,Z x.x,vB x.Bi,Z x.code,Z x.value]
abbrev fe(x:cu):Value:=.agg #[Z x.kind,Z x.J,Z x.oK,Z x.pq,Z x.v,Z x.t,Z x.b,Z x.a,Z x.c,Z x.a2,Z x.c2,Z x.i,Z x.x,vB x.Bi,Z x.code,Z x.value]
theorem zx:uD bE 16:=⟨λ_=>rfl,λx u h=>by simp only[bE,uA,uB,uC]at h;rcases h with rfl | rfl | rfl | rfl | rfl | rfl | rfl | rfl | rfl | rfl | rfl | rfl | rfl | rfl | rfl | rfl<;>rfl,gB⟩
theorem D9(x y:cu):vR (bE x) (bE y)=decide (x=y):=by
 rw[Bool.eq_iff_iff];cases x;cases y;simp[bE,vR,and_assoc]
structure bM where
 eD:Int
 ef:Int
 gu:Int
 ay:Int
 fq:Int
 mH:Int
 kind:Int
 slot:Int
 NJ:Int
deriving Inhabited,DecidableEq
def nq(x:bM):List Value:=[Z x.eD,Z x.ef,Z x.gu,Z x.ay,Z x.fq,Z x.mH,Z x.kind,Z x.slot,Z x.NJ]
abbrev jZ(x:bM):List Value:=[Z x.eD,Z x.ef,Z x.gu,Z x.ay,Z x.fq,Z x.mH,Z x.kind,Z x.slot,Z x.NJ]
abbrev CP(x:bM):Array Value:=#[Z x.eD,Z x.ef,Z x.gu,Z x.ay,Z x.fq,Z x.mH,Z x.kind,Z x.slot,Z x.NJ]
abbrev j0(x:bM):Value:=.agg #[Z x.eD,Z x.ef,Z x.gu,Z x.ay,Z x.fq,Z x.mH,Z x.kind,Z x.slot,Z x.NJ]
theorem Ep:uD nq 9:=⟨λ_=>rfl,λx u h=>by simp only[nq,uA,uB,uC]at h;rcases h with rfl | rfl | rfl | rfl | rfl | rfl | rfl | rfl | rfl<;>rfl,gB⟩
theorem I2(x y:bM):vR (nq x) (nq y)=decide (x=y):=by
 rw[Bool.eq_iff_iff];cases x;cases y;simp[nq,vR,and_assoc]
structure ct where
 cJ:Int
 cK:Int
 iM:Int
 eL:Int
 aR:Int
 eM:Int
 mP:Int
 gR:Int
 iR:Int
 ei:List cw
 look:cu
deriving Inhabited,DecidableEq
def uV(x:ct):List Value:=[Z x.cJ,Z x.cK,Z x.iM,Z x.eL,Z x.aR,Z x.eM,Z x.mP,Z x.gR,Z x.iR]++eA 64 bx x.ei++bE x.look
abbrev mQ(x:ct):List Value:=[Z x.cJ,Z x.cK,Z x.iM,Z x.eL,Z x.aR,Z x.eM,Z x.mP,Z x.gR,Z x.iR]++eA 64 bx x.ei++bE x.look
abbrev pB(x:ct):Array Value:=([Z x.cJ,Z x.cK,Z x.iM,Z x.eL,Z x.aR,Z x.eM,Z x.mP,Z x.gR,Z x.iR]++eA 64 bx x.ei++bE x.look).toArray
abbrev iV(x:ct):Value:=.agg ([Z x.cJ,Z x.cK,Z x.iM,Z x.eL,Z x.aR,Z x.eM,Z x.mP,Z x.gR,Z x.iR]++eA 64 bx x.ei++bE x.look).toArray
theorem F3:uD (uV) 153:=AB.enc (N:=9+64*2+16) (λx=>(show AB (uV x) (9+64*2+16)from(((AB.lit 9 (by rfl)).app (HR 64 fR _)).app (zx.p _)))) gB (by rfl)
structure bK where
 bB:Int
 aO:Int
 az:Int
 from_:Int
 bW:Int
 done:Int
 iE:Int
 gC:Int
 bC:cu
 dL:bM
 eJ:ct
 parked:Bool
deriving Inhabited,DecidableEq
def mh(B:Nat)(x:bK):List Value:=[pA B 0,Z x.bB,Z x.aO,Z x.az,Z x.from_,Z x.bW,Z x.done,Z x.iE,Z x.gC]++bE x.bC++nq x.dL++uV x.eJ++[vB x.parked]
theorem an(B:Nat):uD (mh B) 188:=AB.enc (N:=9+16+9+153+1) (λx=>(show AB (mh B x) (9+16+9+153+1)from(((((AB.lit 9 (by rfl)).app (zx.p _)).app (Ep.p _)).app (F3.p _)).app (AB.lit 1 (by rfl))))) gB (by rfl)
structure ag where
 code:List aB
 result:Int
 dB:Int
 cL:Int
 gE:Int
 dV:Int
 ei:List cw
 aM:List aX
 aj:List bK
 value:Int
 left:Bool
deriving Inhabited,DecidableEq
structure bp where
 kY:Int
 cx:Int
deriving Inhabited,DecidableEq
abbrev zy(x:bp):List Value:=[Z x.kY,Z x.cx]
abbrev hU(x:bp):Array Value:=#[Z x.kY,Z x.cx]
abbrev fD(x:bp):Value:=.agg #[Z x.kY,Z x.cx]
structure gw where
 kY:Int
 cO:Int
deriving Inhabited,DecidableEq
abbrev JT(x:gw):List Value:=[Z x.kY,Z x.cO]
abbrev uW(x:gw):Array Value:=#[Z x.kY,Z x.cO]
abbrev rE(x:gw):Value:=.agg #[Z x.kY,Z x.cO]
abbrev sP(a:fB)(c:Nat)(l:List cw):bl:=rowOf 104 2 bx (.slice a l.length c) l
abbrev sQ(B:Nat)(a:fB)(c:Nat)(l:List bK):bl:=rowOf 117 188 (mh B) (.slice a l.length c) l
abbrev NK(B:Nat)(S:cw):bl:=pts B (.cells #[Z S.kY,Z S.jQ] 104)
abbrev jg(B:Nat)(S:bM):bl:=pts B (.cells #[Z S.eD,Z S.ef,Z S.gu,Z S.ay,Z S.fq,Z S.mH,Z S.kind,Z S.slot,Z S.NJ] 110)
abbrev Ce(B:Nat)(S:ag)(k0:Value)(a1:fB)(c1:Nat)(a7:fB)(c7:Nat)(a8:fB)(c8:Nat)(a9:fB)(c9:Nat):bl:=pts B (.cells #[k0,.slice a1 S.code.length c1,Z S.result,Z S.dB,Z S.cL,Z S.gE,Z S.dV,.slice a7 S.ei.length c7,.slice a8 S.aM.length c8,.slice a9 S.aj.length c9,Z S.value,vB S.left] 96)
abbrev F4(B:Nat)(S:bU)(a0:fB)(c0:Nat)(a1:fB)(c1:Nat)(a6:fB)(c6:Nat)(a7:fB)(c7:Nat):bl:=pts B (.cells #[.slice a0 S.bP.length c0,.slice a1 S.oA.length c1,Z S.cO,Z S.de,Z S.eU,Z S.eP,.slice a6 S.cP.length c6,.slice a7 S.eX.length c7] 32)
def QD:List Bool:=[false,false,false,false,false,false,false,false,false,false,false,false,false,true,true]
structure ak where
 At:Int
 tT:Int
 aG:Int
 Frame:Int
 X:Int
 V:Int
deriving Inhabited,DecidableEq
def ia(x:ak):List Value:=[Z x.At,Z x.tT,Z x.aG,Z x.Frame,Z x.X,Z x.V]
abbrev dM(x:ak):List Value:=[Z x.At,Z x.tT,Z x.aG,Z x.Frame,Z x.X,Z x.V]
abbrev vW(x:ak):Array Value:=#[Z x.At,Z x.tT,Z x.aG,Z x.Frame,Z x.X,Z x.V]
abbrev eH(x:ak):Value:=.agg #[Z x.At,Z x.tT,Z x.aG,Z x.Frame,Z x.X,Z x.V]
theorem fE:uD ia 6:=⟨λ_=>rfl,λx u h=>by simp only[ia,uA,uB,uC]at h;rcases h with rfl | rfl | rfl | rfl | rfl | rfl<;>rfl,gB⟩
abbrev fM(B:Nat)(S:ak):bl:=pts B (.cells #[Z S.At,Z S.tT,Z S.aG,Z S.Frame,Z S.X,Z S.V] 47)
abbrev dG(B:Nat)(S:cu):bl:=pts B (.cells #[Z S.kind,Z S.J,Z S.oK,Z S.pq,Z S.v,Z S.t,Z S.b,Z S.a,Z S.c,Z S.a2,Z S.c2,Z S.i,Z S.x,vB S.Bi,Z S.code,Z S.value] 106)
abbrev iB(B:Nat)(S:ct):bl:=pts B (.cells ([Z S.cJ,Z S.cK,Z S.iM,Z S.eL,Z S.aR,Z S.eM,Z S.mP,Z S.gR,Z S.iR]++eA 64 bx S.ei++bE S.look).toArray 115)
abbrev adY(B:Nat)(S:gw):bl:=pts B (.cells #[Z S.kY,Z S.cO] 92)
end
noncomputable section
variable {z w:World}{L:List bl}
abbrev aq (p:ag) (i:Int):=J p.aj i.toNat
abbrev rF (p:ag) (i:Int):=J p.aM (J p.aj i.toNat).az.toNat
abbrev nM (p:ag) (i:Int) (a:bK):=p.aj.set i.toNat a
theorem _root_.Go.Proofs.YtaiffafelihaaaaGreatDoor.SL.Fit.ga{B:Nat}{z w:World}{L:List bl}{ca:fB}{n cc:Nat}{l:List bK}{x:bK}(h:Fit z (aD (rowOf 117 188 (mh B) (.slice ca n cc) l::L)) w)(f:Nat)(i:Int)(hx:l[i.toNat]?=some x)(xs:List Value)(hxs:(((mh B) x).drop f).take xs.length=xs:=by kernel_rfl):rT w (dJ ca) (i.toNat*188+f) xs:=h.IM (sz:=188) (i:=i.toNat) (an B) (f:=f) hx hxs
theorem _root_.Go.Proofs.YtaiffafelihaaaaGreatDoor.SL.Fit.Hj{z w:World}{L:List bl}{ca:fB}{n cc:Nat}{l:List aX}{x:aX}(h:Fit z (aD (rowOf 100 22 cI (.slice ca n cc) l::L)) w)(f:Nat)(i:Int)(hx:l[i.toNat]?=some x)(xs:List Value)(hxs:((cI x).drop f).take xs.length=xs:=by kernel_rfl):rT w (dJ ca) (i.toNat*22+f) xs:=h.IM (sz:=22) (i:=i.toNat) bV (f:=f) hx hxs
section
variable {P:Program}{ops:Array Oper}{Q:Exit->Act->World->Prop}{a:Act}{w w0 w1:World}{rest:List Oper}{o:Oper}{n d t:Nat}{v:Value}{l:List (Nat×Value)}{j e:Nat->Value}{L:List bl}{Df:List Deferred}{α:Type}{E:TypeId}{sz n0 cc:Nat}{enc:α->List Value}{xs:List α}{ca:fB}
theorem oU{x y:Operand}(hr:cR Df n (lk l j) a)(ho:o.op=.store t x y)(v:Value)(he:uD enc sz)(hF:Fit w0 (aD (rowOf E sz enc (.slice ca n0 cc) xs::L)) w)(i f:Nat)(p q:α)(hp:xs[i]?=some p)(k:∀ w1,Fit w0 (aD (rowOf E sz enc (.slice ca n0 cc) (xs.set i q)::L)) w1->wpList P ops Q rest a w1)(hf:f<sz:=by decide)(hx:eO (lk l j) x=.pointer (some ⟨dJ ca,i*sz+f,none⟩):=by kernel_rfl)(hy:eO (lk l j) y=v:=by kernel_rfl)(hs:(P.info? t).map (·.size)=some 1:=by kernel_rfl)(hq:enc q=(enc p).set f v:=by kernel_rfl)(hw:Region.wanted o (yielded ops a.tmps)=true:=by exact wn rfl)(hd:o.dst=none:=by rfl)(hv:v.cells=#[v]:=by rfl)(h1:v.oneCell'=true:=by rfl):wpList P ops Q (o::rest) a w:=qZ hw hd hr ho hx hy hv h1 hs he hF hp hf hq k
theorem uI{w':World}{x y:Operand}{i:Int}[Inhabited α](E:TypeId)(ho:o.op=.indexAddr t x y)(hF:Fit w0 (aD (rowOf E sz enc (.slice ca n cc) xs::L)) w)(hi:bJ i xs.length)(hx:eO e x=.slice ca n cc:=by kernel_rfl)(hy:eO e y=.int .i64 i:=by kernel_rfl)(ht:P.underlying t=some (.slice E):=by kernel_rfl)(hs:(P.info? E).map (·.size)=some sz:=by kernel_rfl):(execOp (eO e) o).run P w'=.ok (.value (.pointer (some ⟨dJ ca,i.toNat*sz,none⟩))) w':=Bs ho hx hy ht hs hF hi
theorem JU{x y:Operand}{i:Int}{b N R off:Nat}{w':World}(E:TypeId)(ho:o.op=.indexAddr t x y)(hi:bJ i N)(hx:eO e x=.pointer (some ⟨b,R+off,none⟩):=by kernel_rfl)(hy:eO e y=.int .i64 i:=by kernel_rfl)(ht:P.underlying t=some (.array N E):=by kernel_rfl)(hs:(P.info? E).map (·.size)=some sz:=by kernel_rfl):(execOp (eO e) o).run P w'=.ok (.value (.pointer (some ⟨b,R+(off+i.toNat*sz),none⟩))) w':=aap ho hx hy ht hs hi
theorem rG{fn:Func}{R:Ending->World->Prop}{t T b off u:Nat}(cs:List Value)(v:Value)(hres:fn.results=#[.cell t T,.tmp u])(hr:jY n e a)(hc:rT w b off cs)(h:R (.returned (.tuple #[.agg cs.toArray,v])) w)(hv:e t=.pointer (some ⟨b,off,none⟩):=by kernel_rfl)(TF:e u=v:=by kernel_rfl)(hu:vo (P.underlying T)=true:=by kernel_rfl)(hs:(P.info? T).map (·.size)=some cs.length:=by kernel_rfl):bodyPost P fn R .ret a w:=R3 hres hr hv TF hu hs hc h
theorem iF[hp:PI Q]{D:World->Prop}{E:List Nat}{aQ:Array Bool}(fuel i:Nat)(hi:ops[i]?=some o)(v:Value)(k:KK Df n ((dn o,v)::l) j (eK P .any ops Q D E fuel (aQ.setIfInBounds i true)) w)(hg:o.guard=none:=by rfl)(hB:okB ops E aQ i=true:=by kernel_rfl)(hrun:∀ w,(execOp (eO (lk l j)) o).run P w=.ok (.value v) w:=by intro w;kernel_rfl)(hd:o.dst=some (dn o):=by rfl)(hn:Nat.blt (dn o) n=true:=by rfl):KK Df n l j (eK P .any ops Q D E (fuel+1) aQ) w:=λa r=>evs fuel i hi (wn hg) r v k hB hrun hd hn
theorem nr[hp:PI Q]{D:List (Nat×Nat×List Value)}{E:List Nat}{aQ:Array Bool}(hd:HL D w)(f i:Nat)(hi:ops[i]?=some o)(v:Value)(hrun:∀ w,(execOp (eO (lk l j)) o).run P w=.ok (.value v) w)(k:KK Df n ((dn o,v)::l) j (eK P .any ops Q (HL D) E f (aQ.setIfInBounds i true)) w)(hg:o.guard=none:=by rfl)(hB:Zf ops E aQ i=true:=by kernel_rfl)(h1:o.dst=some (dn o):=by rfl)(hn:Nat.blt (dn o) n=true:=by rfl):KK Df n l j (eK P .any ops Q (HL D) E (f+1) aQ) w:=λa r=>FG hd f i hi (wn hg) r v k hB hrun h1 hn
theorem rX{fn:Func}{R:Ending->World->Prop}(v:Value)(hres:fn.results=#[.tmp t])(hr:jY n e a)(h:R (.returned v) w)(hv:e t=v:=by kernel_rfl):bodyPost P fn R .ret a w:=Au hres hr hv h
theorem Er{fn:Func}{R:Ending->World->Prop}{t':Nat}(v v':Value)(hres:fn.results=#[.tmp t,.tmp t'])(hr:jY n e a)(h:R (.returned (.tuple #[v,v'])) w)(hv:e t=v:=by kernel_rfl)(TF:e t'=v':=by kernel_rfl):bodyPost P fn R .ret a w:=EY hres hr hv TF h
theorem LG{fn:Func}{R:Ending->World->Prop}{t1 t2 t3:Nat}(v1 v2 v3:Value)(hres:fn.results=#[.tmp t1,.tmp t2,.tmp t3])(hr:jY n e a)(h:R (.returned (.tuple #[v1,v2,v3])) w)(h1:e t1=v1:=by kernel_rfl)(h2:e t2=v2:=by kernel_rfl)(h3:e t3=v3:=by kernel_rfl):bodyPost P fn R .ret a w:=ID hres hr h1 h2 h3 h
theorem xe{x y:Operand}{i i':Int}(ho:o.op=.index t x y)(hi:i=i')(hy:eO e y=.int .i64 i:=by kernel_rfl)(hrun:(Instr.index t (eO e x) (.int .i64 i')).run P w=.ok v w:=by kernel_rfl):(execOp (eO e) o).run P w=.ok (.value v) w:=adT ho hy hi hrun
theorem Dz{β:Type}[Inhabited α]{x y:Operand}{i:Int}{m tU:Nat}{enc:fB->Nat->α->List Value}{jz:β->List Value}{wm:α->List β}{va:fB}{hs:Nat->Option Addr×Nat}(E:TypeId)(cc:Nat)(ho:o.op=.indexAddr t x y)(EZ:m=xs.length)(hF:yf L sz tU enc jz wm va hs xs)(hi:bJ i xs.length)(hx:eO e x=.slice va m cc:=by kernel_rfl)(hy:eO e y=.int .i64 i:=by kernel_rfl)(ht:P.underlying t=some (.slice E):=by kernel_rfl)(hs':(P.info? E).map (·.size)=some sz:=by kernel_rfl):(execOp (eO e) o).run P w=.ok (.value (.pointer (some ⟨dJ va,jf va+i.toNat*sz,none⟩))) w:=abS ho hx hy EZ ht hs' hF hi
theorem Ff[Inhabited α]{x y:Operand}{i:Int}{m:Nat}{va:fB}(E:TypeId)(cc:Nat)(ho:o.op=.indexAddr t x y)(EZ:m=xs.length)(hF:bI L sz enc va xs)(hi:bJ i xs.length)(hx:eO e x=.slice va m cc:=by kernel_rfl)(hy:eO e y=.int .i64 i:=by kernel_rfl)(ht:P.underlying t=some (.slice E):=by kernel_rfl)(hs:(P.info? E).map (·.size)=some sz:=by kernel_rfl):(execOp (eO e) o).run P w=.ok (.value (.pointer (some ⟨dJ va,jf va+i.toNat*sz,none⟩))) w:=Zb ho hx hy EZ ht hs hF hi
end
abbrev iJ(z:World)(l:List bl)(w:World):Prop:=Fit z (aD l) w
abbrev nH(f:FuncId)(a:Array Value)(w z:World)(v:Value)(l:List bl):Prop:=Calls Tryz.prog f a w λe w=>e=.returned v/\Fit z (aD l) w
abbrev c2_{α β:Type}(f:FuncId)(a:Array Value)(w z:World)(v:Value)(l:α->β->List bl):Prop:=Calls Tryz.prog f a w λe w=>∃x y,e=.returned v/\Fit z (aD (l x y)) w
abbrev yZ{α β γ δ:Type}(f:FuncId)(a:Array Value)(w z:World)(v:Value)(l:α->β->γ->δ->List bl):Prop:=Calls Tryz.prog f a w λe w=>∃x y x' y',e=.returned v/\Fit z (aD (l x y x' y')) w
section
variable {P:Program}{ops:Array Oper}{Q:Exit->Act->World->Prop}{a:Act}{w w0 w1:World}{rest:List Oper}{o:Oper}{n d t:Nat}{v:Value}{l:List (Nat×Value)}{j e:Nat->Value}{L:List bl}{Df:List Deferred}{α:Type}{E:TypeId}{sz n0 cc:Nat}{enc:α->List Value}{xs:List α}{ca:fB}
theorem mu{i:Nat}{E:List Nat}{D:World->Prop}{X:Act->World->Prop}(k:KK Df n l j X w)(hB:¬i∈E:=by decide):KK Df n l j (λa w=>(i∈E->D w)/\X a w) w:=λa r=>⟨λh=>absurd h hB,k a r⟩
theorem mM{E:List Nat}{aQ:Array Bool}{D:World->Prop}{fuel:Nat}(k:KK Df n l j (Q .normal) w)(hrd:Region.ready .any ops aQ=[]:=by kernel_rfl):KK Df n l j (eK P .any ops Q D E fuel aQ) w:=λa r=>zN (k a r) hrd
theorem lB{E:List Nat}{aQ:Array Bool}(i:Nat){D:World->Prop}{fuel:Nat}(hi:ops[i]?=some o)(k:KK Df n l j (wpList P ops (Exit.then (λa w=>(i∈E->D w)/\eK P .any ops Q D E fuel (aQ.setIfInBounds i true) a w) Q) [o]) w)(hrd:Region.ready .any ops aQ=[i]:=by kernel_rfl):KK Df n l j (eK P .any ops Q D E (fuel+1) aQ) w:=λa r=>lj i hi (k a r) hrd
theorem wo{i:Nat}{E:List Nat}{D:World->Prop}{X:Act->World->Prop}(hd:D w)(k:D w->KK Df n l j X w):KK Df n l j (λa w=>(i∈E->D w)/\X a w) w:=λa r=>⟨λ_=>hd,k hd a r⟩
theorem mJ{id:Nat}{lo:List Oper}{H:bl}(D:List (Nat×Nat×List Value))(E:List Nat)(N:Nat)(hF:Fit w0 H w)(hd:∀{w},Fit w0 H w->HL D w)(k:∀w,Fit w0 H w->HL D w->KK Df n l j (eK P .any lo.toArray Q (HL D) E N (Array.replicate N false)) w)(hm:P.follows .mixedOrders=true:=by kernel_rfl)(hN:lo.toArray.size=N:=by rfl):KK Df n l j ((Code.region id lo.toArray true).wp P Q) w:=λa r=>El D E N hF hd (λw h hd=>k w h hd a r) hm hN
theorem zz{x:Operand}{ad:Addr}(v:Value)(hc:w.cell? ad=some v)(k:KK Df n ((d,v)::l) j (wpList P ops Q rest) w)(hw:o.guard=none:=by rfl)(hd:o.dst=some d:=by rfl)(hn:Nat.blt d n=true:=by rfl)(ho:o.op=.load t x:=by rfl)(hx:eO (lk l j) x=.pointer (some ad):=by kernel_rfl)(hu:yD (P.underlying t)=true:=by kernel_rfl):KK Df n l j (wpList P ops Q (o::rest)) w:=λ_ r=>ld (wn hw) r v hc k hd hn ho hx hu
theorem yw{x:Operand}{b off:Nat}{cs:List Value}(v:Value)(hc:rT w b off cs)(k:KK Df n ((d,v)::l) j (wpList P ops Q rest) w)(hv:.agg cs.toArray=v:=by rfl)(hw:o.guard=none:=by rfl)(hd:o.dst=some d:=by rfl)(hn:Nat.blt d n=true:=by rfl)(ho:o.op=.load t x:=by rfl)(hx:eO (lk l j) x=.pointer (some ⟨b,off,none⟩):=by kernel_rfl)(hu:vo (P.underlying t)=true:=by kernel_rfl)(hs:(P.info? t).map (·.size)=some cs.length:=by kernel_rfl):KK Df n l j (wpList P ops Q (o::rest)) w:=λ_ r=>ldm (wn hw) r v hc k hv hd hn ho hx hu hs
def lE_(b:Nat)(agc:List (List Nat×Value)):List (Nat×Nat×Value):=agc.flatMap λg=>g.1.map λk=>(k,b+k,g.2)
theorem lW{E:List Nat}{aQ:Array Bool}{N:Nat}{D:List (Nat×Nat×List Value)}[hp:PI Q](hd:HL D w)(f b:Nat)(agc:List (List Nat×Value))(k:KK Df n (Uk (lE_ b agc) l) j (eK P .any ops Q (HL D) E f (Uj (lE_ b agc) aQ)) w)(hN:f+(lE_ b agc).length=N:=by kernel_rfl)(hB:okE ops E n (lE_ b agc) aQ=true:=by kernel_rfl)(hrun:∀w,Lu P ops (lE_ b agc) l j w=E5 (lE_ b agc) w:=by intro w;kernel_rfl):KK Df n l j (eK P .any ops Q (HL D) E N aQ) w:=mg hd f (lE_ b agc) k hN hB hrun
theorem bS{os:List Oper}(k:KK Df n (adA P j os [U] l) j (wpList P ops Q (os.drop 1)) w)(hrun:chA P n j w os [U] l=wnA P j w os [U] l:=by kernel_rfl):KK Df n l j (wpList P ops Q os) w:=ko [U] k hrun
theorem aL{Uh:Nat}{y:Code}{os:List Oper}(vs:List Value)(k:KK Df n (adA P j os vs l) j (wpList P os.toArray (Exit.then (y.wp P Q) Q) (os.drop vs.length)) w)(hrun:chA P n j w os vs l=wnA P j w os vs l:=by kernel_rfl):KK Df n l j ((Code.seq (.region Uh os.toArray false) y).wp P Q) w:=ks (ko vs k hrun)
theorem gP{Uh:Nat}{y:Code}{o:Oper}(k:KK Df n (adA P j [o] [U] l) j (y.wp P Q) w)(hrun:chA P n j w [o] [U] l=wnA P j w [o] [U] l:=by kernel_rfl):KK Df n l j ((Code.seq (.region Uh [o].toArray false) y).wp P Q) w:=ks (ko [U] (G k) hrun)
theorem bY(k:KK Df n l j (Q .ret) w):KK Df n l j (wpList P ops (Exit.then (Code.ret.wp P Q) Q) []) w:=G (wr k)
theorem fT{K:Act->World->Prop}(k:KK Df n l j K w):KK Df n l j (Code.skip.wp P (Exit.then K Q)) w:=wk (tn k)
theorem eI{E:List Nat}{aQ:Array Bool}{D:List (Nat×Nat×List Value)}{v:Value}[hp:PI Q](hd:HL D w)(q f i:Nat){b off:Nat}{x:Operand}(h:(ops[i]?,D[q]?)=(some o,some (b,off,[v])))(k:KK Df n ((dn o,v)::l) j (eK P .any ops Q (HL D) E f (aQ.setIfInBounds i true)) w)(hg:o.guard=none:=by rfl)(hB:(okB ops E aQ i&&D5 .any ops E aQ i)=true:=by kernel_rfl)(ho:o.op=.load t x:=by rfl)(hx:eO (lk l j) x=.pointer (some ⟨b,off,none⟩):=by kernel_rfl)(hu:yD (P.underlying t)=true:=by kernel_rfl)(h1:o.dst=some (dn o):=by rfl)(hn:Nat.blt (dn o) n=true:=by rfl):KK Df n l j (eK P .any ops Q (HL D) E (f+1) aQ) w:=kx hd q f i (nR (·.1) h) (nR (·.2) h) k hg hB ho hx hu h1 hn
end
abbrev mR(a:fB)(i:Int)(s:Nat):Value:=pA (dJ a) (i.toNat*s)
abbrev aW(a:fB)(n c:Nat):Value:=.slice a n c
abbrev if_(n:Nat)(v:Value):Value:=.iface n v
abbrev oV(a:Array Value):Value:=.agg a
abbrev fS(b:Nat)(c:Array Value)(t:Nat):bl:=pts b (.cells c t)
abbrev uQ(a:fB)(i:Int)(s f:Nat):Value:=pA (dJ a) (i.toNat*s+f)
abbrev eC (p:ag) (i:Int):aX:={rF p i with J:=wi ((rF p i).J+1)}
abbrev Es (p:ag) (i:Int):aB:=J p.code (rF p i).fn.toNat
abbrev fz (p:ag) (i:Int):cr:=J (Es p i).ai (rF p i).J.toNat
abbrev Fg (p:ag) (i:Int) (a:aX):=p.aM.set (aq p i).az.toNat a
def kO(O:dZ):Option (Bool):=
 (if O.cx<1 then some true else(if O.cx>4096 then some true else(if O.dP<1 then some true else(if O.dP>O.jQ then some true else some (decide (O.jQ>4096))))))
abbrev da:List Value:=[U,U]
theorem zd(H:kO O=some r0)(h:iJ z (L) w) :
 nH 33 #[kI O] w z (vB r0) (L):=by
 unfold kO at H;refine ke func33 28 rfl λj=>ks<|kN h (lV O) 27 λb1 w h=>bS<|G<|aL [U]<|kL h 0<|ko [dm (O.cx<1),dm (O.cx<1)]<|qI H (λc2 H=>?_) λc2 H=>?_
 ·refine cg (dT c2) [7,8,9]<|oJ (dT c2) (vB true)<|bS<|cg (rfl:true=true) [12,13,14]<|ko da<|cg (rfl:true=true) [17,18,19,20,21]<|ko da<|cg (rfl:true=true) [24,25,26]<|ko da<|bY<|?_;cases H;exact fU (h.se 1 [])
 refine cT (dF c2) [7] [pA b1 0]<|vz (dF c2) h 0<|cT (dF c2) [9] [dm (O.cx>4096)]<|oz (dF c2) (dm (O.cx>4096))<|ko [dm (O.cx>4096)]<|qI H (λc3 H=>?_) λc3 H=>?_
 ·refine cg (dT c3) [12,13,14]<|oJ (dT c3) (vB true)<|bS<|cg (rfl:true=true) [17,18,19,20,21]<|ko da<|cg (rfl:true=true) [24,25,26]<|ko da<|bY<|?_;cases H;exact fU (h.se 1 [])
 refine cT (dF c3) [12] [pA b1 1]<|vz (dF c3) h 1<|cT (dF c3) [14] [dm (O.dP<1)]<|oz (dF c3) (dm (O.dP<1))<|ko [dm (O.dP<1)]<|qI H (λc4 H=>?_) λc4 H=>?_
 ·refine cg (dT c4) [17,18,19,20,21]<|oJ (dT c4) (vB true)<|bS<|cg (rfl:true=true) [24,25,26]<|ko da<|bY<|?_;cases H;exact fU (h.se 1 [])
 refine cT (dF c4) [17] [pA b1 1]<|vz (dF c4) h 1<|cT (dF c4) [19] [pA b1 2]<|vz (dF c4) h 2<|cT (dF c4) [21] [dm (O.dP>O.jQ)]<|oz (dF c4) (dm (O.dP>O.jQ))<|ko [dm (O.dP>O.jQ)]<|qI H (λc5 H=>?_) λc5 H=>?_
 ·refine cg (dT c5) [24,25,26]<|oJ (dT c5) (vB true)<|bS<|bY<|?_;cases H;exact fU (h.se 1 [])
 refine cT (dF c5) [24] [pA b1 2]<|vz (dF c5) h 2<|cT (dF c5) [26] [dm (O.jQ>4096)]<|oz (dF c5) (dm (O.jQ>4096))<|ko [dm (O.jQ>4096)]<|bY<|?_;cases H;exact fU (h.se 1 [])
def mS(K:Nat)(Y:Int):Nat->Int->Int->Option (Int)
 | 0,_,_=>none
 | k1+1,g1,g2=>(if g2<Y then(mS K Y k1 (wi ((wi (g1+1))+(if Y<(wi ((2:Int)*g2))then Y else(wi ((2:Int)*g2))))) (if Y<(wi ((2:Int)*g2))then Y else(wi ((2:Int)*g2))))else some g1)
def vA(K:Nat)(O:Int)(Y:Int):Option (Int):=
 (mS K Y K (wi ((4:Int)+O)) O)
def zA(K:Nat)(O:Int)(Y:dZ):Option (Int):=
 Ax ((if O<1 then some (.inr 0)else(if O>64 then some (.inr 0)else dX (kO Y) (λr6=>(if r6=true then some (.inr 0)else some (.inl ())))))) (dX (vA K Y.dP Y.jQ) (λr9=>some (wi ((wi ((wi ((wi ((2:Int)+(wi (Y.cx*10))))+2))+O))+(wi (O*r9))))))
def Bv(O:Int):Option (Bool):=
 (if O>=0 then some (decide (O<=1048576))else some false)
theorem Ea(H:Bv O=some r0)(h:iJ z (L) w) :
 nH 32 #[Z O] w z (vB r0) (L):=by
 unfold Bv at H;refine ke func32 9 rfl λj=>gP<|aL [U,dm (O>=0),dm (O>=0)]<|qI H (λc1 H=>?_) λc1 H=>?_
 ·refine cT (dT c1) [6,7] [Z O,dm (O<=1048576)]<|oJ (dT c1) (dm (O<=1048576))<|ko [dm (O<=1048576)]<|bY<|?_;cases H;exact fU h
 refine cg (dF c1) [6,7]<|oz (dF c1) (vB false)<|bS<|bY<|?_;cases H;exact fU h
def yx(O:Int):Option ((Option af)×Int):=
 dX (Bv O) (λr1=>(if r1=true then some (some (⟨O,0,([]:List Int),([]:List aU),0,false⟩:af),0)else some (none,3)))
abbrev kJ:List Value:=[U,U,U]
abbrev gD (B:Nat) (S:af) (a:fB) (c:Nat) (d:fB) (e:Nat) (L:List bl):List bl:=adX B S a c d e::XD a c S.cell::UP d e S.log::L
theorem JV{O r1:Int}{r0:af}(H:yx O=some ((some r0),r1))(h:iJ z (L) w) :
 Calls Tryz.prog 12 #[Z O] w λe w=>∃Zm y1 y2 y3 y4,e=.returned (.tuple #[pA Zm 0,Z r1])/\Fit z (aD (gD Zm r0 y1 y2 y3 y4 L)) w:=by
 unfold yx at H;refine ke func12 11 rfl λj=>aL da<|G<|wq<|ks<|fP H λr1 e2 H=>bS<|eW (Ea e2 h :) λw h=>ko [vB (!r1)]<|G<|FZ H (λc3 H=>?_) λc3 H=>?_
 ·refine fT<|aL kJ<|kN h (#[Z O,Z 0,aW none 0 0,aW none 0 0,Z 0,vB false]) 78 λb4 w h=>ko da<|bY<|λ_ r=>Er (pA b4 0) (Z 0) rfl r<|?_;replace h:=h.fC (e:=2) (sz:=1) (enc:=aK);replace h:=h.fC (e:=269) (sz:=6) (enc:=gZ);cases H;exact⟨b4,none,0,none,0,rfl,h.se 3 [2,1,0]⟩
 refine aL da<|bY<|tr<|λ_ r=>Er pN (Z 3) rfl r<|?_;cases H
theorem JW{O r1:Int}(H:yx O=some (none,r1))(h:iJ z (L) w) :
 nH 12 #[Z O] w z (.tuple #[pN,Z r1]) (L):=by
 unfold yx at H;refine ke func12 11 rfl λj=>aL da<|G<|wq<|ks<|fP H λr1 e2 H=>bS<|eW (Ea e2 h :) λw h=>ko [vB (!r1)]<|G<|FZ H (λc3 H=>?_) λc3 H=>?_
 ·refine fT<|aL kJ<|kN h (#[Z O,Z 0,aW none 0 0,aW none 0 0,Z 0,vB false]) 78 λb4 w h=>ko da<|bY<|λ_ r=>Er (pA b4 0) (Z 0) rfl r<|?_;replace h:=h.fC (e:=2) (sz:=1) (enc:=aK);replace h:=h.fC (e:=269) (sz:=6) (enc:=gZ);cases H
 refine aL da<|bY<|tr<|?_;cases H;exact ML h
def j8(O:aB):Option (Bool):=
 Ax ((if O.aS<0 then some (.inr false)else(if O.aS>8 then some (.inr false)else(if O.dh<1 then some (.inr false)else(if O.dh<O.aS then some (.inr false)else(if O.dh>16 then some (.inr false)else some (.inl ()))))))) ((if O.bQ>=0 then(if O.bQ<=8 then(if((O.ai.length:Nat):Int)>=1 then some (decide (((O.ai.length:Nat):Int)<=512))else some false)else some false)else some false))
theorem wE(H:j8 O=some r0)(h:iJ z (L) w)(cE:bI L 5 cU bz O.ai) :
 nH 49 #[oV #[Z O.aS,Z O.dh,Z O.bQ,aW bz O.ai.length bZ]] w z (vB r0) (L):=by
 unfold j8 at H;refine ke func49 48 rfl λj=>ks<|kN h (#[Z O.aS,Z O.dh,Z O.bQ,aW bz O.ai.length bZ]) 85 λb1 w h=>bS<|G<|?_;obtain⟨o3,H,GU⟩:=FU H;refine λ_ r=>cW (β:=Unit) (λ_ a w=>.inl ()=o3/\∃j,jY 48 (lk [(1,pA b1 0)] j) a/\Fit z (aD (sK b1 O bz bZ::L)) w) ?_ ?_
 ·refine qq r<|aL [U]<|kL h 0<|ko [dm (O.aS<0),dm (O.aS<0)]<|qI H (λc4 H=>?_) λc4 H=>?_
  ·refine cg (dT c4) [7,8,9]<|oJ (dT c4) (vB true)<|bS<|cg (rfl:true=true) [12,13,14]<|ko da<|cg (rfl:true=true) [17,18,19,20,21]<|ko da<|cg (rfl:true=true) [24,25,26]<|bS<|G<|λ_ r=>fW r (b:=true) rfl<|qq r<|gP<|wr<|tr<|λ_ r=>rX (vB false) rfl r<|?_;replace H:=wL H GU;cases H;exact⟨rfl,h.se 1 []⟩
  refine cT (dF c4) [7] [pA b1 0]<|vz (dF c4) h 0<|cT (dF c4) [9] [dm (O.aS>8)]<|oz (dF c4) (dm (O.aS>8))<|ko [dm (O.aS>8)]<|qI H (λc5 H=>?_) λc5 H=>?_
  ·refine cg (dT c5) [12,13,14]<|oJ (dT c5) (vB true)<|bS<|cg (rfl:true=true) [17,18,19,20,21]<|ko da<|cg (rfl:true=true) [24,25,26]<|bS<|G<|λ_ r=>fW r (b:=true) rfl<|qq r<|gP<|wr<|tr<|λ_ r=>rX (vB false) rfl r<|?_;replace H:=wL H GU;cases H;exact⟨rfl,h.se 1 []⟩
  refine cT (dF c5) [12] [pA b1 1]<|vz (dF c5) h 1<|cT (dF c5) [14] [dm (O.dh<1)]<|oz (dF c5) (dm (O.dh<1))<|ko [dm (O.dh<1)]<|qI H (λc6 H=>?_) λc6 H=>?_
  ·refine cg (dT c6) [17,18,19,20,21]<|oJ (dT c6) (vB true)<|bS<|cg (rfl:true=true) [24,25,26]<|bS<|G<|λ_ r=>fW r (b:=true) rfl<|qq r<|gP<|wr<|tr<|λ_ r=>rX (vB false) rfl r<|?_;replace H:=wL H GU;cases H;exact⟨rfl,h.se 1 []⟩
  refine cT (dF c6) [17] [pA b1 1]<|vz (dF c6) h 1<|cT (dF c6) [19] [pA b1 0]<|vz (dF c6) h 0<|cT (dF c6) [21] [dm (O.dh<O.aS)]<|oz (dF c6) (dm (O.dh<O.aS))<|ko [dm (O.dh<O.aS)]<|qI H (λc7 H=>?_) λc7 H=>?_
  ·refine cg (dT c7) [24,25,26]<|oJ (dT c7) (vB true)<|G<|λ_ r=>fW r (b:=true) rfl<|qq r<|gP<|wr<|tr<|λ_ r=>rX (vB false) rfl r<|?_;replace H:=wL H GU;cases H;exact⟨rfl,h.se 1 []⟩
  refine cT (dF c7) [24] [pA b1 1]<|vz (dF c7) h 1<|cT (dF c7) [26] [dm (O.dh>16)]<|oz (dF c7) (dm (O.dh>16))<|G<|dK H (λc8 H=>?_) λc8 H=>?_
  ·refine gP<|wr<|tr<|λ_ r=>rX (vB false) rfl r<|?_;replace H:=wL H GU;cases H;exact⟨rfl,h.se 1 []⟩
  refine fT<|?_;exact λ_ r=>⟨(),fV H,r.fj h⟩
 clear h r;rintro _ a w ⟨rfl,j,r,h⟩;replace H:=FV GU;refine qq r<|aL [U]<|kL h 2<|ko [dm (O.bQ>=0),dm (O.bQ>=0)]<|qI H (λc9 H=>?_) λc9 H=>?_
 ·refine cT (dT c9) [32] [pA b1 2]<|vz (dT c9) h 2<|cT (dT c9) [34] [dm (O.bQ<=8)]<|oJ (dT c9) (dm (O.bQ<=8))<|ko [dm (O.bQ<=8)]<|qI H (λpe H=>?_) λpe H=>?_
  ·refine cT (dT pe) [37] [pA b1 3]<|vz (dT pe) h 3<|cT (dT pe) [39,40] [Z ((O.ai.length:Nat):Int),dm (((O.ai.length:Nat):Int)>=1)]<|oJ (dT pe) (dm (((O.ai.length:Nat):Int)>=1))<|ko [dm (((O.ai.length:Nat):Int)>=1)]<|qI H (λvH H=>?_) λvH H=>?_
   ·refine cT (dT vH) [43] [pA b1 3]<|vz (dT vH) h 3<|cT (dT vH) [45,46] [Z ((O.ai.length:Nat):Int),dm (((O.ai.length:Nat):Int)<=512)]<|oJ (dT vH) (dm (((O.ai.length:Nat):Int)<=512))<|ko [dm (((O.ai.length:Nat):Int)<=512)]<|bY<|?_;cases H;exact fU (h.se 1 [])
   refine cg (dF vH) [43,44,45,46]<|oz (dF vH) (vB false)<|bS<|bY<|?_;cases H;exact fU (h.se 1 [])
  refine cg (dF pe) [37,38,39,40]<|oz (dF pe) (vB false)<|bS<|cg (rfl:false=false) [43,44,45,46]<|ko da<|bY<|?_;cases H;exact fU (h.se 1 [])
 refine cg (dF c9) [32,33,34]<|oz (dF c9) (vB false)<|bS<|cg (rfl:false=false) [37,38,39,40]<|ko da<|cg (rfl:false=false) [43,44,45,46]<|ko da<|bY<|?_;cases H;exact fU (h.se 1 [])
def gF(O:Int)(Y:Int):Option (Bool):=
 (if O>=0 then some (decide (O<Y))else some false)
theorem iG(H:gF O Y=some r0)(h:iJ z (L) w) :
 nH 84 #[Z O,Z Y] w z (vB r0) (L):=by
 unfold gF at H;refine ke func84 12 rfl λj=>gP<|aL [U,dm (O>=0),dm (O>=0)]<|qI H (λc1 H=>?_) λc1 H=>?_
 ·refine cT (dT c1) [8,9,10] [Z O,Z Y,dm (O<Y)]<|oJ (dT c1) (dm (O<Y))<|ko [dm (O<Y)]<|bY<|?_;cases H;exact fU h
 refine cg (dF c1) [8,9,10]<|oz (dF c1) (vB false)<|bS<|bY<|?_;cases H;exact fU h
def oB(O:aB)(Y:cr):Option (Bool):=
 dX (gF Y.A O.dh) (λr3=>dX (gF Y.B O.dh) (λr5=>dX ((if Y.aG=0 then some (Y.aG==0)else(if Y.aG=8 then some (Y.aG==8)else some (Y.aG==9)))) (λg7=>(if g7=true then some r3 else(if Y.aG=1 then(if r3=true then some r5 else some false)else(if Y.aG=2 then(if r3=true then(if r5=true then dX (gF Y.C O.dh) (λmT=>(if mT=true then(if Y.K>=0 then some (decide (Y.K<16))else some false)else some false))else some false)else some false)else(if Y.aG=3 then dX (gF Y.A ((O.ai.length:Nat):Int)) (λrY=>some rY)else(if Y.aG=4 then(if r3=true then dX (gF Y.B ((O.ai.length:Nat):Int)) (λLH=>some LH)else some false)else(if Y.aG=5 then dX (gF Y.A O.bQ) (λCQ=>some CQ)else(if Y.aG=6 then some true else(if Y.aG=7 then(if r3=true then dX (gF Y.B O.bQ) (λEO=>some EO)else some false)else some false)))))))))))
theorem tZ(H:oB O Y=some r0)(h:iJ z (L) w)(cE:bI L 5 cU bz O.ai) :
 nH 50 #[oV #[Z O.aS,Z O.dh,Z O.bQ,aW bz O.ai.length bZ],gO Y] w z (vB r0) (L):=by
 unfold oB at H;refine ke func50 91 rfl λj=>ks<|kN h (#[Z O.aS,Z O.dh,Z O.bQ,aW bz O.ai.length bZ]) 85 λb1 w h=>kN h (lP Y) 132 λb2 w h=>bS<|G<|aL [U]<|kL h 1<|bS<|kL (h.pick 1) 1<|fP H λr3 e4 H=>eW (iG e4 h :) λw h=>bS<|G<|aL [U]<|kL h 2<|bS<|kL (h.pick 1) 1<|fP H λr5 e6 H=>eW (iG e6 h :) λw h=>bS<|G<|wq<|aL [U]<|kL h 0<|G<|wb<|EM H λo9 H NL=>λ_ r=>cW (β:=Unit) (λ_ a w=>∃g7:Bool,g7=o9/\∃j,jY 91 (lk [(2,pA b1 0),(3,pA b2 0),(5,vB r3),(6,vB r5),(18,Z Y.aG),(19,vB g7)] j) a/\Fit z (aD (sK b1 O bz bZ::wD b2 Y::L)) w) ?_ ?_
 ·refine qq r<|aL [vB (Y.aG==0),vB (Y.aG==0)]<|G<|dK H (λpe H=>?_) λpe H=>?_
  ·refine fT<|?_;exact λ_ r=>⟨(),(Y.aG==0),fV H,r.fj (h.se 2 [1,0])⟩
  refine aL [vB (Y.aG==8),vB (Y.aG==8)]<|G<|dK H (λvH H=>?_) λvH H=>?_
  ·refine fT<|?_;exact λ_ r=>⟨(),(Y.aG==8),fV H,r.fj (h.se 2 [1,0])⟩
  refine wl<|ko [vB (Y.aG==9),vB (Y.aG==9)]<|G<|?_;exact λ_ r=>⟨(),(Y.aG==9),fV H,r.fj (h.se 2 [1,0])⟩
 clear h r;rintro _ a w ⟨g7,rfl,j,r,h⟩;replace H:=EK NL;refine qq r<|EN H (λEt H=>?_) λEt H=>?_
 ·refine aL da<|bY<|br<|tr<|?_;cases H;exact fU (h.se 2 [])
 refine aL [vB (Y.aG==1),vB (Y.aG==1)]<|G<|dK H (λyI H=>?_) λyI H=>?_
 ·refine aL da<|qI H (λxF H=>?_) λxF H=>?_
  ·refine cT (xF) [28] [vB r5]<|oJ (xF) (vB r5)<|bS<|bY<|br<|tr<|?_;cases H;exact fU (h.se 2 [])
  refine cg (bF xF) [28]<|oz (bF xF) (vB false)<|bS<|bY<|br<|tr<|?_;cases H;exact fU (h.se 2 [])
 refine aL [vB (Y.aG==2),vB (Y.aG==2)]<|G<|dK H (λpT H=>?_) λpT H=>?_
 ·refine aL da<|qI H (λvJ H=>?_) λvJ H=>?_
  ·refine cT (vJ) [34] [vB r5]<|oJ (vJ) (vB r5)<|bS<|qI H (λzO H=>?_) λzO H=>?_
   ·refine cT (zO) [37] [pA b2 3]<|λ_ r=>ld (nL r (zO)) r (Z Y.C) ((h.pick 1).cell 3 rfl)<|?_;refine cT (zO) [39] [pA b1 1]<|λ_ r=>ld (nL r (zO)) r (Z O.dh) (h.cell 1 rfl)<|?_;refine fP H λmT KZ H=>?_;have hc:=iG (H:=KZ) (h:=h);intro _ r;refine cl (nL r (zO)) r hc ?_;clear hc h;rintro _ w ⟨rfl,h⟩;refine⟨_,rfl,?_⟩;refine oJ (zO) (vB mT)<|bS<|qI H (λlT H=>?_) λlT H=>?_
    ·refine cT (lT) [44] [pA b2 4]<|λ_ r=>ld (nL r (lT)) r (Z Y.K) ((h.pick 1).cell 4 rfl)<|?_;refine cT (lT) [46] [dm (Y.K>=0)]<|oJ (lT) (dm (Y.K>=0))<|ko [dm (Y.K>=0)]<|qI H (λsL H=>?_) λsL H=>?_
     ·refine cT (dT sL) [49] [pA b2 4]<|vz (dT sL) (h.pick 1) 4<|cT (dT sL) [51] [dm (Y.K<16)]<|oJ (dT sL) (dm (Y.K<16))<|ko [dm (Y.K<16)]<|bY<|br<|tr<|?_;cases H;exact fU (h.se 2 [])
     refine cg (dF sL) [49,50,51]<|oz (dF sL) (vB false)<|bS<|bY<|br<|tr<|?_;cases H;exact fU (h.se 2 [])
    refine cg (bF lT) [44,45,46]<|oz (bF lT) (vB false)<|bS<|cg (rfl:false=false) [49,50,51]<|ko da<|bY<|br<|tr<|?_;cases H;exact fU (h.se 2 [])
   refine cg (bF zO) [37,38,39,40,41]<|oz (bF zO) (vB false)<|bS<|cg (rfl:false=false) [44,45,46]<|ko da<|cg (rfl:false=false) [49,50,51]<|ko da<|bY<|br<|tr<|?_;cases H;exact fU (h.se 2 [])
  refine cg (bF vJ) [34]<|oz (bF vJ) (vB false)<|bS<|cg (rfl:false=false) [37,38,39,40,41]<|ko da<|cg (rfl:false=false) [44,45,46]<|ko da<|cg (rfl:false=false) [49,50,51]<|ko da<|bY<|br<|tr<|?_;cases H;exact fU (h.se 2 [])
 refine aL [vB (Y.aG==3),vB (Y.aG==3)]<|G<|dK H (λF5 H=>?_) λF5 H=>?_
 ·refine aL [U]<|kL (h.pick 1) 1<|bS<|kL h 3<|fP H λrY UR H=>ko [Z ((O.ai.length:Nat):Int)]<|eW (iG UR h :) λw h=>bS<|bY<|br<|tr<|?_;cases H;exact fU (h.se 2 [])
 refine aL [vB (Y.aG==4),vB (Y.aG==4)]<|G<|dK H (λzP H=>?_) λzP H=>?_
 ·refine aL da<|qI H (λDs H=>?_) λDs H=>?_
  ·refine cT (Ds) [65] [pA b2 2]<|λ_ r=>ld (nL r (Ds)) r (Z Y.B) ((h.pick 1).cell 2 rfl)<|?_;refine cT (Ds) [67] [pA b1 3]<|λ_ r=>ld (nL r (Ds)) r (aW bz O.ai.length bZ) (h.cell 3 rfl)<|?_;refine fP H λLH Pa H=>cT (Ds) [69] [Z ((O.ai.length:Nat):Int)]<|?_;have hc:=iG (H:=Pa) (h:=h);intro _ r;refine cl (nL r (Ds)) r hc ?_;clear hc h;rintro _ w ⟨rfl,h⟩;refine⟨_,rfl,?_⟩;refine oJ (Ds) (vB LH)<|bS<|bY<|br<|tr<|?_;cases H;exact fU (h.se 2 [])
  refine cg (bF Ds) [65,66,67,68,69,70]<|oz (bF Ds) (vB false)<|bS<|bY<|br<|tr<|?_;cases H;exact fU (h.se 2 [])
 refine aL [vB (Y.aG==5),vB (Y.aG==5)]<|G<|dK H (λBw H=>?_) λBw H=>?_
 ·refine aL [U]<|kL (h.pick 1) 1<|bS<|kL h 2<|fP H λCQ WO H=>eW (iG WO h :) λw h=>bS<|bY<|br<|tr<|?_;cases H;exact fU (h.se 2 [])
 refine aL [vB (Y.aG==6),vB (Y.aG==6)]<|G<|dK H (λEP H=>?_) λEP H=>?_
 ·refine gP<|wr<|br<|tr<|?_;cases H;exact fU (h.se 2 [])
 refine aL [vB (Y.aG==7),vB (Y.aG==7)]<|G<|dK H (λCf H=>?_) λCf H=>?_
 ·refine aL da<|qI H (λFh H=>?_) λFh H=>?_
  ·refine cT (Fh) [85] [pA b2 2]<|λ_ r=>ld (nL r (Fh)) r (Z Y.B) ((h.pick 1).cell 2 rfl)<|?_;refine cT (Fh) [87] [pA b1 2]<|λ_ r=>ld (nL r (Fh)) r (Z O.bQ) (h.cell 2 rfl)<|?_;refine fP H λEO US H=>?_;have hc:=iG (H:=US) (h:=h);intro _ r;refine cl (nL r (Fh)) r hc ?_;clear hc h;rintro _ w ⟨rfl,h⟩;refine⟨_,rfl,?_⟩;refine oJ (Fh) (vB EO)<|bS<|bY<|br<|tr<|?_;cases H;exact fU (h.se 2 [])
  refine cg (bF Fh) [85,86,87,88,89]<|oz (bF Fh) (vB false)<|bS<|bY<|br<|tr<|?_;cases H;exact fU (h.se 2 [])
 refine wk<|bn<|tn<|gP<|wr<|?_;cases H;exact fU (h.se 2 [])
def pU(O:aE)(Y:aB)(p2:cr):Option (Bool):=
 (if p2.aG=5 then dX (gF p2.B ((O.ah.length:Nat):Int)) (λr5=>(if r5=true then if bJ p2.B O.ah.length then(if(J O.ah p2.B.toNat).aS=0 then some true else dX (gF p2.C Y.dh) (λzQ=>(if zQ=true then some (decide ((J O.ah p2.B.toNat).aS<=(wi (Y.dh-p2.C))))else some false)))else none else some false))else some true)
theorem Cg(H:pU O Y p2=some r0)(h:iJ z (L) w)(aP:zb L aT aI O.ah)(eR:bI L 5 cU dk Y.ai) :
 nH 51 #[oV #[aW aT O.ah.length bt],oV #[Z Y.aS,Z Y.dh,Z Y.bQ,aW dk Y.ai.length dy],gO p2] w z (vB r0) (L):=by
 unfold pU at H;refine ke func51 43 rfl λj=>ks<|kN h (#[aW aT O.ah.length bt]) 24 λb1 w h=>kN h (#[Z Y.aS,Z Y.dh,Z Y.bQ,aW dk Y.ai.length dy]) 85 λb2 w h=>kN h (lP p2) 132 λb3 w h=>bS<|G<|wq<|aL [U]<|kL h 0<|ko [vB (p2.aG != 5)]<|G<|rV H (λc4 H=>?_) λc4 H=>?_
 ·refine fT<|wq<|aL [U]<|kL h 2<|bS<|kL (h.pick 2) 0<|fP H λr5 e6 H=>ko [Z ((O.ah.length:Nat):Int)]<|eW (iG e6 h :) λw h=>ko [vB (!r5)]<|G<|FZ H (λc7 H=>?_) λc7 H=>?_
  ·refine fT<|aL [U]<|kL (h.pick 2) 0<|bS<|kL h 2<|qg H λc8 H=>kp (pA (dJ aT) (jf aT+p2.B.toNat*4)) (Dz 85 bt rfl rfl aP c8)<|bS<|zz (Z (J O.ah p2.B.toNat).aS) (aP.cell c8 (h.dn 3) 0 rfl)<|?_;refine bS<|G<|aL [U,vB ((J O.ah p2.B.toNat).aS==0),vB ((J O.ah p2.B.toNat).aS==0)]<|qI H (λc9 H=>?_) λc9 H=>?_
   ·refine cg (beq_iff_eq.mpr c9) [28,29,30,31,32,33]<|Nz true [34,35,36,37,38,39,40]<|cg (beq_iff_eq.mpr c9) [41]<|oJ (beq_iff_eq.mpr c9) (vB true)<|bS<|bY<|?_;cases H;exact fU (h.se 3 [])
   refine cT (bN c9) [28] [pA b3 3]<|vz (bN c9) h 3<|cT (bN c9) [30] [pA b2 1]<|vz (bN c9) (h.pick 1) 1<|fP H λzQ XE H=>xg0 (bN c9) (iG XE h :) λw h=>cT (bN c9) [33] [vB zQ]<|qI H (λEt H=>?_) λEt H=>?_
   ·refine cT (Et) [34,35] [Z (J O.ah p2.B.toNat).aS,pA b2 1]<|λ_ r=>ld (nL r (Et)) r (Z Y.dh) ((h.pick 1).cell 1 rfl)<|?_;refine cT (Et) [37] [pA b3 3]<|λ_ r=>ld (nL r (Et)) r (Z p2.C) (h.cell 3 rfl)<|?_;refine cT (Et) [39,40] [Z (wi (Y.dh-p2.C)),dm ((J O.ah p2.B.toNat).aS<=(wi (Y.dh-p2.C)))]<|λ_ r=>CK (nL r (bN c9)) r (dm ((J O.ah p2.B.toNat).aS<=(wi (Y.dh-p2.C)))) (G8 (b:=zQ) rfl aZ (Et) aZ)<|?_;refine oz (bN c9) (dm ((J O.ah p2.B.toNat).aS<=(wi (Y.dh-p2.C))))<|ko [dm ((J O.ah p2.B.toNat).aS<=(wi (Y.dh-p2.C)))]<|bY<|?_;cases H;exact fU (h.se 3 [])
   refine cg (bF Et) [34,35,36,37,38,39,40]<|λ_ r=>CK (nL r (bN c9)) r (vB false) (It (b:=zQ) rfl aZ (bF Et) aZ)<|?_;refine oz (bN c9) (vB false)<|bS<|bY<|?_;cases H;exact fU (h.se 3 [])
  refine gP<|wr<|tr<|?_;cases H;exact fU (h.se 3 [])
 refine gP<|wr<|tr<|?_;cases H;exact fU (h.se 3 [])
def nN(O:aB):Option (Bool):=
 if bJ (wi (((O.ai.length:Nat):Int)-1)) O.ai.length then(if(J O.ai (wi (((O.ai.length:Nat):Int)-1)).toNat).aG=3 then some true else some ((J O.ai (wi (((O.ai.length:Nat):Int)-1)).toNat).aG==9))else none
theorem xU(H:nN O=some r0)(h:iJ z (L) w)(cE:bI L 5 cU bz O.ai) :
 nH 52 #[oV #[Z O.aS,Z O.dh,Z O.bQ,aW bz O.ai.length bZ]] w z (vB r0) (L):=by
 unfold nN at H;refine ke func52 19 rfl λj=>ks<|kN h (#[Z O.aS,Z O.dh,Z O.bQ,aW bz O.ai.length bZ]) 85 λb1 w h=>bS<|G<|aL [U]<|kL h 3<|bS<|kL h 3<|qg H λc2 H=>ko [Z ((O.ai.length:Nat):Int),Z (wi (((O.ai.length:Nat):Int)-1))]<|kj 132 bZ cE c2<|ko [pA (dJ bz) (jf bz+(wi (((O.ai.length:Nat):Int)-1)).toNat*5)]<|zz (Z (J O.ai (wi (((O.ai.length:Nat):Int)-1)).toNat).aG) (cE.cell c2 (h.dn 1) 0 rfl)<|?_;refine ko [Z (J O.ai (wi (((O.ai.length:Nat):Int)-1)).toNat).aG]<|G<|aL [Z (J O.ai (wi (((O.ai.length:Nat):Int)-1)).toNat).aG,vB ((J O.ai (wi (((O.ai.length:Nat):Int)-1)).toNat).aG==3),vB ((J O.ai (wi (((O.ai.length:Nat):Int)-1)).toNat).aG==3)]<|qI H (λc3 H=>?_) λc3 H=>?_
 ·refine cg (beq_iff_eq.mpr c3) [16,17]<|oJ (beq_iff_eq.mpr c3) (vB true)<|bS<|bY<|?_;cases H;exact fU (h.se 1 [])
 refine cT (bN c3) [16,17] [Z (J O.ai (wi (((O.ai.length:Nat):Int)-1)).toNat).aG,vB ((J O.ai (wi (((O.ai.length:Nat):Int)-1)).toNat).aG==9)]<|oz (bN c3) (vB ((J O.ai (wi (((O.ai.length:Nat):Int)-1)).toNat).aG==9))<|ko [vB ((J O.ai (wi (((O.ai.length:Nat):Int)-1)).toNat).aG==9)]<|bY<|?_;cases H;exact fU (h.se 1 [])
def jh(K:Nat)(O:aB):Nat->Int->Option (Bool)
 | 0,_=>none
 | k1+1,g5=>(if g5<((O.ai.length:Nat):Int)then if bJ g5 O.ai.length then dX (oB O (J O.ai g5.toNat)) (λr8=>(if r8=true then(jh K O k1 (wi (g5+1)))else some false))else none else dX (nN O) (λvC=>some vC))
def tO(K:Nat)(O:aB):Option (Bool):=
 dX (j8 O) (λr2=>(if r2=true then(jh K O K 0)else some false))
theorem CR(H:tO K O=some r0)(h:iJ z (L) w)(cE:bI L 5 cU bz O.ai) :
 nH 85 #[oV #[Z O.aS,Z O.dh,Z O.bQ,aW bz O.ai.length bZ]] w z (vB r0) (L):=by
 unfold tO at H;refine ke func85 26 rfl λj=>ks<|kN h (#[Z O.aS,Z O.dh,Z O.bQ,aW bz O.ai.length bZ]) 85 λb1 w h=>bS<|G<|wq<|ks<|kM h<|fP H λr2 e3 H=>eW (wE (bz:=bz) (bZ:=bZ) (cE:=(bI.up 1 cE)) e3 h :) λw h=>ko [vB (!r2)]<|G<|FZ H (λc4 H=>?_) λc4 H=>?_
 ·refine fT<|wq<|gP<|wb<|λ_ r=>dr (β:=Nat) id (λm a w=>∃g5:Int,(jh K O m g5)=some r0/\∃j,jY 26 (lk [(1,pA b1 0),(3,Z g5)] j) a/\Fit z (aD (sK b1 O bz bZ::L)) w) K ⟨0,H,r.fj h⟩<|?_;clear h r H;rintro k1 a w ⟨g5,H,j,r,h⟩;cases k1 with
  | zero=>exact absurd H (by simp[jh])
  | succ k1 =>
   rw[jh]at H;refine qq r<|wq<|aL da<|kL h 3<|ko [Z ((O.ai.length:Nat):Int),dm (g5<((O.ai.length:Nat):Int))]<|G<|dK H (λc6 H=>?_) λc6 H=>?_
   ·refine fT<|wq<|wb<|wq<|qg H λc7 H=>fP H λr8 e9 H=>mJ [(b1,0,[Z O.aS,Z O.dh,Z O.bQ,aW bz O.ai.length bZ]),(b1,3,[aW bz O.ai.length bZ]),(dJ bz,jf bz+g5.toNat*5,gq (J O.ai g5.toNat))] [1,4] 8 h (λh=>⟨(h.held 0 rfl),⟨h.cell 3 rfl,bR⟩,⟨cE.cell c7 (h.dn 1) 0 rfl,cE.cell c7 (h.dn 1) 1 rfl,cE.cell c7 (h.dn 1) 2 rfl,cE.cell c7 (h.dn 1) 3 rfl,cE.cell c7 (h.dn 1) 4 rfl,bR⟩,bR⟩) λw h hd =>mg hd 6 [(1,16,pA b1 3),(3,18,Z g5)]<|yh hd 0 5 0 rfl rfl<|eI hd 1 4 2 rfl<|nr hd 3 4 rfl (pA (dJ bz) (jf bz+g5.toNat*5)) (λw=>Ff 132 bZ rfl rfl cE c7)<|yh hd 2 2 5 rfl rfl<|lB 6 rfl<|eW (tZ (bz:=bz) (bZ:=bZ) (cE:=(bI.up 1 cE)) e9 h :) λw h=>G<|mu<|iF 0 7 rfl (vB r8)<|mM<|tn<|aL [U,vB (!r8)]<|G<|FZ H (λpe H=>?_) λpe H=>?_
    ·refine wk<|bn<|tn<|wl<|ko [U,Z (wi (g5+1)),Z (wi (g5+1))]<|G<|?_;exact λ_ r=>⟨_,⟨(wi (g5+1)),H,r.fj h⟩,ie _⟩
    refine gP<|wr<|br<|tr<|tr<|br<|tr<|?_;cases H;exact fU (h.se 1 [])
   refine wx<|te<|te<|bh<|tn<|ks<|kM h<|fP H λvC Fi H=>eW (xU (bz:=bz) (bZ:=bZ) (cE:=(bI.up 1 cE)) Fi h :) λw h=>bS<|bY<|?_;cases H;exact fU (h.se 1 [])
 refine gP<|wr<|tr<|?_;cases H;exact fU (h.se 1 [])
def q8(O:cr)(Y:Int)(p2:Int):Option (Int):=
 (if O.aG=5 then(if O.A=Y then some 2 else(if O.aG=6 then(if p2=2 then some 4 else some p2)else some p2))else(if O.aG=6 then(if p2=2 then some 4 else some p2)else some p2))
theorem CS(H:q8 O Y p2=some r0)(h:iJ z (L) w) :
 nH 120 #[gO O,Z Y,Z p2] w z (Z r0) (L):=by
 unfold q8 at H;refine ke func120 24 rfl λj=>ks<|kN h (lP O) 132 λb1 w h=>bS<|G<|wq<|aL [U]<|kL h 0<|ko [vB (O.aG==5),vB (O.aG==5)]<|qI H (λc2 H=>?_) λc2 H=>?_
 ·refine cT (beq_iff_eq.mpr c2) [11] [pA b1 1]<|λ_ r=>ld (nL r (beq_iff_eq.mpr c2)) r (Z O.A) (h.cell 1 rfl)<|?_;refine cT (beq_iff_eq.mpr c2) [13,14] [Z Y,vB (O.A==Y)]<|oJ (beq_iff_eq.mpr c2) (vB (O.A==Y))<|G<|dK H (λc3 H=>?_) λc3 H=>?_
  ·refine gP<|wr<|tr<|?_;cases H;exact fU (h.se 1 [])
  refine fT<|wq<|aL [U]<|kL h 0<|ko [vB (O.aG==6),vB (O.aG==6)]<|qI H (λc4 H=>?_) λc4 H=>?_
  ·refine cT (beq_iff_eq.mpr c4) [20,21] [Z p2,vB (p2==2)]<|oJ (beq_iff_eq.mpr c4) (vB (p2==2))<|G<|dK H (λc5 H=>?_) λc5 H=>?_
   ·refine gP<|wr<|tr<|?_;cases H;exact fU (h.se 1 [])
   refine fT<|aL da<|bY<|?_;cases H;exact fU (h.se 1 [])
  refine cg (bN c4) [20,21]<|oz (bN c4) (vB false)<|G<|λ_ r=>jw r (b:=false) rfl<|qq r<|fT<|aL da<|bY<|?_;cases H;exact fU (h.se 1 [])
 refine cg (bN c2) [11,12,13,14]<|oz (bN c2) (vB false)<|G<|λ_ r=>jw r (b:=false) rfl<|qq r<|fT<|wq<|aL [U]<|kL h 0<|ko [vB (O.aG==6),vB (O.aG==6)]<|qI H (λc6 H=>?_) λc6 H=>?_
 ·refine cT (beq_iff_eq.mpr c6) [20,21] [Z p2,vB (p2==2)]<|oJ (beq_iff_eq.mpr c6) (vB (p2==2))<|G<|dK H (λc7 H=>?_) λc7 H=>?_
  ·refine gP<|wr<|tr<|?_;cases H;exact fU (h.se 1 [])
  refine fT<|aL da<|bY<|?_;cases H;exact fU (h.se 1 [])
 refine cg (bN c6) [20,21]<|oz (bN c6) (vB false)<|G<|λ_ r=>jw r (b:=false) rfl<|qq r<|fT<|aL da<|bY<|?_;cases H;exact fU (h.se 1 [])
def q9(O:aB)(Y:Int):Option ((List Int)):=
 if bJ Y O.ai.length then(if(J O.ai Y.toNat).aG=3 then some ([(J O.ai Y.toNat).A])else(if(J O.ai Y.toNat).aG=9 then some ([]:List Int)else(if(J O.ai Y.toNat).aG=4 then some ([wi (Y+1),(J O.ai Y.toNat).B])else some ([wi (Y+1)]))))else none
abbrev DA:Array Value:=#[Z 0,Z 0,Z 0,Z 0,Z 0]
theorem CT(H:q9 O Y=some r0)(h:iJ z (L) w)(cE:bI L 5 cU bz O.ai) :
 Calls Tryz.prog 121 #[oV #[Z O.aS,Z O.dh,Z O.bQ,aW bz O.ai.length bZ],Z Y] w λe w=>∃y1 y2,e=.returned (aW y1 r0.length y2)/\Fit z (aD (zu y1 y2 r0::L)) w:=by
 unfold q9 at H;refine ke func121 30 rfl λj=>ks<|kN h (#[Z O.aS,Z O.dh,Z O.bQ,aW bz O.ai.length bZ]) 85 λb1 w h=>bS<|G<|aL [U]<|kL h 3<|qg H λc2 H=>bS<|kj 132 bZ cE c2<|yw (gO (J O.ai Y.toNat)) (cs:=gq (J O.ai Y.toNat)) ⟨cE.cell c2 (h.dn 1) 0 rfl,cE.cell c2 (h.dn 1) 1 rfl,cE.cell c2 (h.dn 1) 2 rfl,cE.cell c2 (h.dn 1) 3 rfl,cE.cell c2 (h.dn 1) 4 rfl,bR⟩<|?_;refine kN h (DA) 132 λb3 w h=>kA h (wD b3 (J O.ai Y.toNat)) λw h=>G<|wq<|aL [U]<|kL h 0<|G<|wb<|aL [vB ((J O.ai Y.toNat).aG==3),vB ((J O.ai Y.toNat).aG==3)]<|G<|dK H (λc4 H=>?_) λc4 H=>?_
 ·refine aL [U]<|kL h 1<|kV h (#[Z (J O.ai Y.toNat).A]) 3 λb5 w h=>?_;replace h:=Fit.Dm (n:=1) (l:=[(J O.ai Y.toNat).A]) (by rfl) (by rfl) aJ gB h;refine bS<|bY<|br<|tr<|λ_ r=>rX (aW (some ⟨b5,0,none⟩) 1 1) rfl r<|?_;have hn5:1=([(J O.ai Y.toNat).A]).length:=h.rS;replace h:=Fit.II hn5 (λq_=>rowOf 3 1 aK (aW (some ⟨b5,0,none⟩) q_ 1) ([(J O.ai Y.toNat).A])) h;cases H;exact⟨(some ⟨b5,0,none⟩),1,(by first | rfl | simp only[hn5]),h.se 3 [0]⟩
 refine aL [vB ((J O.ai Y.toNat).aG==9),vB ((J O.ai Y.toNat).aG==9)]<|G<|dK H (λc7 H=>?_) λc7 H=>?_
 ·refine gP<|wr<|br<|tr<|λ_ r=>rX (aW none 0 0) rfl r<|?_;replace h:=h.fC (e:=3) (sz:=1) (enc:=aK);cases H;exact⟨none,0,rfl,h.se 3 [0]⟩
 refine aL [vB ((J O.ai Y.toNat).aG==4),vB ((J O.ai Y.toNat).aG==4)]<|G<|dK H (λc8 H=>?_) λc8 H=>?_
 ·refine aL [U,Z (wi (Y+1)),U]<|kL h 2<|λ_ r=>aan (wn rfl) r h (λb=>aW (some ⟨b,0,none⟩) 2 2) (#[Z (wi (Y+1)),Z (J O.ai Y.toNat).B]) 3 λb9 w _ h r=>qq r<|?_;replace h:=Fit.Dm (n:=2) (l:=[wi (Y+1),(J O.ai Y.toNat).B]) (by rfl) (by rfl) aJ gB h;refine bS<|bY<|br<|tr<|λ_ r=>rX (aW (some ⟨b9,0,none⟩) 2 2) rfl r<|?_;have hn9:2=([wi (Y+1),(J O.ai Y.toNat).B]).length:=h.rS;replace h:=Fit.II hn9 (λq_=>rowOf 3 1 aK (aW (some ⟨b9,0,none⟩) q_ 2) ([wi (Y+1),(J O.ai Y.toNat).B])) h;cases H;exact⟨(some ⟨b9,0,none⟩),2,(by first | rfl | simp only[hn9]),h.se 3 [0]⟩
 refine wk<|bn<|tn<|aL [U,Z (wi (Y+1))]<|kV h (#[Z (wi (Y+1))]) 3 λPb w h=>?_;replace h:=Fit.Dm (n:=1) (l:=[wi (Y+1)]) (by rfl) (by rfl) aJ gB h;refine bS<|bY<|λ_ r=>rX (aW (some ⟨Pb,0,none⟩) 1 1) rfl r<|?_;have abX:1=([wi (Y+1)]).length:=h.rS;replace h:=Fit.II abX (λq_=>rowOf 3 1 aK (aW (some ⟨Pb,0,none⟩) q_ 1) ([wi (Y+1)])) h;cases H;exact⟨(some ⟨Pb,0,none⟩),1,(by first | rfl | simp only[abX]),h.se 3 [0]⟩
def gM(K:Nat)(ug:Int)(vX:List Int):Nat->(List Int)->(List Int)->(List Int)->Int->Option ((List Int)×(List Int)×(List Int))
 | 0,_,_,_,_=>none
 | k2+1,JM,QF,QG,tP=>(if tP<((vX.length:Nat):Int)then if bJ tP vX.length then if bJ (J vX tP.toNat) JM.length then(if(iu (J JM (J vX tP.toNat).toNat) ug)=0 then if(QF.length+1)*8<=140737488355328 then if(QG.length+1)*8<=140737488355328 then(gM K ug vX k2 (JM.set (J vX tP.toNat).toNat (wi ((J JM (J vX tP.toNat).toNat)+ug))) (QF++[(J vX tP.toNat)]) (QG++[ug]) (wi (tP+1)))else none else none else(gM K ug vX k2 JM QF QG (wi (tP+1))))else none else none else some (JM,QF,QG))
def iA(K:Nat)(O:aB)(Y:Int):Nat->(List Int)->(List Int)->(List Int)->Int->Option ((List Int))
 | 0,_,_,_,_=>none
 | k1+1,l9,I3,I4,xg=>(if xg<((I3.length:Nat):Int)then rN (if bJ xg I3.length then if bJ (J I3 xg.toNat) O.ai.length then if bJ xg I4.length then dX (q8 (J O.ai (J I3 xg.toNat).toNat) Y (J I4 xg.toNat)) (λug=>dX (q9 O (J I3 xg.toNat)) (λvX=>(gM K ug vX K l9 I3 I4 0)))else none else none else none) (λZn l24 QH=>(iA K O Y k1 Zn l24 QH (wi (xg+1))))else some l9)
def mU(K:Nat)(O:aB)(Y:Int):Option ((List Int)):=
 if 0<=((O.ai.length:Nat):Int)/\((O.ai.length:Nat):Int)*8<=140737488355328 then if bJ (0:Int) (List.replicate O.ai.length (0:Int)).length then(iA K O Y K ((List.replicate O.ai.length (0:Int)).set 0 1) ([0]) ([1]) 0)else none else none
theorem ze(H:mU K O Y=some r0)(h:iJ z (L) w)(cE:bI L 5 cU bz O.ai) :
 Calls Tryz.prog 86 #[oV #[Z O.aS,Z O.dh,Z O.bQ,aW bz O.ai.length bZ],Z Y] w λe w=>∃y1 y2,e=.returned (aW y1 r0.length y2)/\Fit z (aD (zu y1 y2 r0::L)) w:=by
 unfold mU at H;refine ke func86 91 rfl λj=>ks<|kN h (#[Z O.aS,Z O.dh,Z O.bQ,aW bz O.ai.length bZ]) 85 λb1 w h=>bS<|G<|aL [U]<|kL h 3<|qg H λc2 H=>ko [Z ((O.ai.length:Nat):Int)]<|λ_ r=>tX (i:=((O.ai.length:Nat):Int)) (bytes:=8) (zc:=#[Z 0]) (0:Int) (wn rfl) rfl rfl r rfl aZ aZ c2 aJ (E:=3) aZ aZ rfl rfl h λjA w _ h r=>qq r<|bS<|G<|ks<|kV h (#[Z 0]) 3 λb4 w h=>?_;replace h:=Fit.Dm (n:=1) (l:=[0]) (by rfl) (by rfl) aJ gB h;refine bS<|G<|ks<|kV h (#[Z 1]) 3 λb5 w h=>?_;replace h:=Fit.Dm (n:=1) (l:=[1]) (by rfl) (by rfl) aJ gB h;refine bS<|G<|ks<|qg H λc6 H=>bS<|kp (pA (dJ jA) (0*1)) (Bs (i:=(0:Int)) (k:=.i64) (E:=3) rfl aZ aZ aZ aZ (h.pick 2) c6)<|qh h.m2 λh=>λ_ r=>Lr (wn rfl) r aJ h 0 0 (Z 1) (J (List.replicate O.ai.length (0:Int)) 0) 1 (bj c6) λw h=>qq r<|G<|wq<|gP<|wb<|?_;have abY:(List.replicate O.ai.length (0:Int)).length=((List.replicate O.ai.length (0:Int)).set 0 1).length:=h.rS;replace h:=Fit.II abY (λq_=>rowOf 3 1 aK (aW jA q_ O.ai.length) ((List.replicate O.ai.length (0:Int)).set 0 1)) h;intro _ r;replace r:=r.re 5 (nR (λq_=>Value.slice jA q_ O.ai.length) abY);refine qh h.m2 λh=>?_;have abZ:1=([0]).length:=h.rS;replace h:=Fit.II abZ (λq_=>rowOf 3 1 aK (aW (some ⟨b4,0,none⟩) q_ 1) ([0])) h;replace r:=r.re 6 (nR (λq_=>Value.slice (some ⟨b4,0,none⟩) q_ 1) abZ);refine qh h.m2 λh=>?_;have ab0:1=([1]).length:=h.rS;replace h:=Fit.II ab0 (λq_=>rowOf 3 1 aK (aW (some ⟨b5,0,none⟩) q_ 1) ([1])) h;replace r:=r.re 7 (nR (λq_=>Value.slice (some ⟨b5,0,none⟩) q_ 1) ab0);refine dr (β:=Nat) id (λm a w=>∃lC:fB,∃mj:Nat,∃JX:fB,∃Sg:Nat,∃um:fB,∃uX:Nat,∃l9:List Int,∃I3:List Int,∃I4:List Int,∃xg:Int,(iA K O Y m l9 I3 I4 xg)=some r0/\∃j,jY 91 (lk [(1,Z Y),(2,pA b1 0),(5,aW lC l9.length mj),(6,aW JX I3.length Sg),(7,aW um I4.length uX),(8,Z xg)] j) a/\Fit z (aD (sK b1 O bz bZ::zu lC mj l9::zu JX Sg I3::zu um uX I4::L)) w) K ⟨jA,O.ai.length,(some ⟨b4,0,none⟩),1,(some ⟨b5,0,none⟩),1,((List.replicate O.ai.length (0:Int)).set 0 1),[0],[1],0,H,r.fj (h.se 4 [3,2,1,0])⟩<|?_;clear h r H;rintro k1 a w ⟨lC,mj,JX,Sg,um,uX,l9,I3,I4,xg,H,j,r,h⟩;cases k1 with
 | zero=>exact absurd H (by simp[iA])
 | succ k1 =>
  rw[iA]at H;refine qq r<|wq<|aL [U,U,Z ((I3.length:Nat):Int),dm (xg<((I3.length:Nat):Int))]<|G<|dK H (λlT H=>?_) λlT H=>?_
  ·refine fT<|qd3 H λo29 H aat=>λ_ r=>cW (β:=Unit) (λ_ a w=>∃NM:fB,∃NN:Nat,∃AG:fB,∃DB:Nat,∃Zn:List Int,∃l24:List Int,∃QH:List Int,(Zn,l24,QH)=o29/\∃j,jY 91 (lk [(1,Z Y),(2,pA b1 0),(5,aW lC l9.length mj),(6,aW NM l24.length NN),(7,aW AG QH.length DB),(8,Z xg)] j) a/\Fit z (aD (sK b1 O bz bZ::rowOf 3 1 aK (aW lC l9.length mj) Zn::zu NM NN l24::zu AG DB QH::L)) w) ?_ ?_
   ·refine qq r<|wb<|wq<|qg H λvD H=>qg H λxV H=>mJ [(b1,3,[aW bz O.ai.length bZ]),(dJ JX,xg.toNat*1,[Z (J I3 xg.toNat)]),(dJ bz,jf bz+(J I3 xg.toNat).toNat*5,gq (J O.ai (J I3 xg.toNat).toNat))] [0,4,6] 10 h (λh=>⟨⟨h.cell 3 rfl,bR⟩,⟨(h.pick 2).cy aJ (f:=0) (bj vD) rfl,bR⟩,⟨cE.cell xV (h.dn 4) 0 rfl,cE.cell xV (h.dn 4) 1 rfl,cE.cell xV (h.dn 4) 2 rfl,cE.cell xV (h.dn 4) 3 rfl,cE.cell xV (h.dn 4) 4 rfl,bR⟩,bR⟩) λw h hd =>mg hd 7 [(0,27,pA b1 3),(2,29,aW JX I3.length Sg),(3,30,Z xg)]<|nr hd 6 4 rfl (mR JX xg 1) (λw=>uI 3 rfl (h.pick 2) vD)<|eI hd 0 5 1 rfl<|eI hd 1 4 5 rfl<|nr hd 3 6 rfl (pA (dJ bz) (jf bz+(J I3 xg.toNat).toNat*5)) (λw=>Ff 132 bZ rfl rfl cE xV)<|yh hd 2 2 7 rfl rfl<|lB 8 rfl<|kN h (DA) 132 λb32 w h=>G<|λ_ r=>xE<|lj 9 rfl<|qq r<|kA h (wD b32 (J O.ai (J I3 xg.toNat).toNat)) λw h=>G<|mu<|mM<|tn<|wq<|qg H λCf H=>fP H λug LI H=>mJ [(b32,0,gq (J O.ai (J I3 xg.toNat).toNat)),(dJ um,xg.toNat*1,[Z (J I4 xg.toNat)])] [4] 8 h (λh=>⟨(h.held 0 rfl),⟨(h.pick 4).cy aJ (f:=0) (bj Cf) rfl,bR⟩,bR⟩) λw h hd =>mg hd 5 [(1,36,Z Y),(2,37,aW um I4.length uX),(3,38,Z xg)]<|nr hd 4 4 rfl (mR um xg 1) (λw=>uI 3 rfl (h.pick 4) Cf)<|yh hd 0 3 0 rfl rfl<|eI hd 1 2 5 rfl<|lB 6 rfl<|eW (CS LI h :) λw h=>G<|mu<|iF 0 7 rfl (Z ug)<|mM<|tn<|wq<|fP H λvX Sh H=>mJ [(b1,0,[Z O.aS,Z O.dh,Z O.bQ,aW bz O.ai.length bZ]),(dJ JX,xg.toNat*1,[Z (J I3 xg.toNat)])] [3] 7 h (λh=>⟨((h.pick 1).held 0 rfl),⟨(h.pick 3).cy aJ (f:=0) (bj vD) rfl,bR⟩,bR⟩) λw h hd =>mg hd 5 [(1,43,aW JX I3.length Sg),(2,44,Z xg)]<|nr hd 4 3 rfl (mR JX xg 1) (λw=>uI 3 rfl (h.pick 3) vD)<|yh hd 0 3 0 rfl rfl<|eI hd 1 2 4 rfl<|lB 5 rfl<|UE (CT (bz:=bz) (bZ:=bZ) (cE:=(bI.up 5 cE)) Sh h :) λHU F6 w h=>G<|mu<|iF 0 6 rfl (aW HU vX.length F6)<|mM<|tn<|gP<|wb<|λ_ r=>dr (β:=Nat) id (λm a w=>∃UT:fB,∃UU:Nat,∃Fj:fB,∃Fk:Nat,∃JM:List Int,∃QF:List Int,∃QG:List Int,∃tP:Int,(gM K ug vX m JM QF QG tP)=some o29/\∃j,jY 91 (lk [(1,Z Y),(2,pA b1 0),(5,aW lC l9.length mj),(6,aW UT QF.length UU),(7,aW Fj QG.length Fk),(8,Z xg),(10,Z ug),(11,aW HU vX.length F6),(12,Z tP)] j) a/\Fit z (aD (sK b1 O bz bZ::rowOf 3 1 aK (aW lC l9.length mj) JM::zu UT UU QF::zu Fj Fk QG::zu HU F6 vX::L)) w) K ⟨JX,Sg,um,uX,l9,I3,I4,0,H,r.fj (h.se 6 [2,3,4,5,0])⟩<|?_;clear h r H;rintro k2 a w ⟨UT,UU,Fj,Fk,JM,QF,QG,tP,H,j,r,h⟩;cases k2 with
    | zero=>exact absurd H (by simp[gM])
    | succ k2 =>
     rw[gM]at H;refine qq r<|wq<|aL [U,U,Z ((vX.length:Nat):Int),dm (tP<((vX.length:Nat):Int))]<|G<|dK H (λXF H=>?_) λXF H=>?_
     ·refine fT<|wq<|wb<|ks<|qg H λJN H=>ko kJ<|ki (h.pick 4) JN<|zz (Z (J vX tP.toNat)) ((h.pick 4).cy aJ (f:=0) (bj JN) rfl)<|?_;refine qg H λTI H=>ki (h.pick 1) TI<|zz (Z (J JM (J vX tP.toNat).toNat)) ((h.pick 1).cy aJ (f:=0) (bj TI) rfl)<|?_;refine bS<|kp (Z (iu (J JM (J vX tP.toNat).toNat) ug)) (rand rfl aZ aZ)<|ko [vB ((iu (J JM (J vX tP.toNat).toNat) ug)==0)]<|G<|dK H (λc51 H=>?_) λc51 H=>?_
      ·refine wq<|mJ [(dJ HU,tP.toNat*1,[Z (J vX tP.toNat)]),(dJ HU,tP.toNat*1,[Z (J vX tP.toNat)]),(dJ lC,(J vX tP.toNat).toNat*1,[Z (J JM (J vX tP.toNat).toNat)])] [3,8,10,13] 16 h (λh=>⟨⟨(h.pick 4).cy aJ (f:=0) (bj JN) rfl,bR⟩,⟨(h.pick 4).cy aJ (f:=0) (bj JN) rfl,bR⟩,⟨(h.pick 1).cy aJ (f:=0) (bj TI) rfl,bR⟩,bR⟩) λw h hd =>mg hd 13 [(0,64,aW lC l9.length mj),(1,65,aW HU vX.length F6),(2,66,Z tP)]<|nr hd 12 3 rfl (mR HU tP 1) (λw=>uI 3 rfl (h.pick 4) JN)<|mg hd 9 [(5,69,aW lC l9.length mj),(6,70,aW HU vX.length F6),(7,71,Z tP)]<|nr hd 8 8 rfl (mR HU tP 1) (λw=>uI 3 rfl (h.pick 4) JN)<|mg hd 7 [(12,76,Z ug)]<|eI hd 0 6 4 rfl<|eI hd 1 5 9 rfl<|nr hd 4 10 rfl (pA (dJ lC) ((J vX tP.toNat).toNat*1)) (λw=>uI 3 rfl (h.pick 1) TI)<|eI hd 2 3 11 rfl<|mg hd 2 [(13,77,Z (wi ((J JM (J vX tP.toNat).toNat)+ug)))]<|nr hd 1 14 rfl (pA (dJ lC) ((J vX tP.toNat).toNat*1)) (λw=>uI 3 rfl (h.pick 1) TI)<|λ_ r=>lj 15 rfl<|qh h.m1 λh=>Lr (wn rfl) r aJ h (J vX tP.toNat).toNat 0 (Z (wi ((J JM (J vX tP.toNat).toNat)+ug))) (J JM (J vX tP.toNat).toNat) (wi ((J JM (J vX tP.toNat).toNat)+ug)) (bj TI) λw h=>qq r<|G<|mu<|mM<|tn<|aL kJ<|ki (h.pick 4) JN<|zz (Z (J vX tP.toNat)) ((h.pick 4).cy aJ (f:=0) (bj JN) rfl)<|?_;refine kV h (#[Z (J vX tP.toNat)]) 3 λb52 w h=>qh h.m3 λh=>qg H λc55 H=>λ_ r=>jU (n0:=QF.length) (c:=1) (bytes:=8) (wn rfl) rfl rfl r rfl aZ aZ aJ (E:=3) (xs:=QF) aZ aZ h (news:=[(J vX tP.toNat)]) (m:=1) rfl ((h.pick 1).news rfl) c55 rfl λadZ ad0 w _ h r=>qq r<|bS<|G<|wl<|ko da<|kV h (#[Z ug]) 3 λb56 w h=>qh h.m5 λh=>qg H λc59 H=>λ_ r=>jU (n0:=QG.length) (c:=1) (bytes:=8) (wn rfl) rfl rfl r rfl aZ aZ aJ (E:=3) (xs:=QG) aZ aZ h (news:=[ug]) (m:=1) rfl ((h.pick 1).news rfl) c59 rfl λJY JZ w _ h r=>qq r<|bS<|kl<|bn<|tn<|wl<|ko [U,Z (wi (tP+1)),Z (wi (tP+1))]<|G<|?_;exact λ_ r=>⟨_,⟨adZ,ad0,JY,JZ,(JM.set (J vX tP.toNat).toNat (wi ((J JM (J vX tP.toNat).toNat)+ug))),(QF++[(J vX tP.toNat)]),(QG++[ug]),(wi (tP+1)),H,r.fj (h.se 7 [5,4,2,0,6])⟩,ie _⟩
      refine wk<|bn<|tn<|wl<|ko [U,Z (wi (tP+1)),Z (wi (tP+1))]<|G<|?_;exact λ_ r=>⟨_,⟨UT,UU,Fj,Fk,JM,QF,QG,(wi (tP+1)),H,r.fj h⟩,ie _⟩
     refine wx<|te<|te<|bh<|bn<|tn<|?_;exact λ_ r=>⟨(),UT,UU,Fj,Fk,JM,QF,QG,fV H,r.fj (h.se 5 [0,1,2,3])⟩
   clear h r;rintro _ a w ⟨NM,NN,AG,DB,Zn,l24,QH,rfl,j,r,h⟩;replace H:=kk3 aat;refine qq r<|wl<|ko [U,Z (wi (xg+1)),Z (wi (xg+1))]<|G<|qh h.m1 λh=>?_;have ab1:l9.length=Zn.length:=h.rS;replace h:=Fit.II ab1 (λq_=>rowOf 3 1 aK (aW lC q_ mj) Zn) h;intro _ r;replace r:=r.re 5 (nR (λq_=>Value.slice lC q_ mj) ab1);exact⟨_,⟨lC,mj,NM,NN,AG,DB,Zn,l24,QH,(wi (xg+1)),H,r.fj (h.se 4 [1,0,2,3])⟩,ie _⟩
  refine wx<|te<|te<|bh<|tn<|aL da<|bY<|?_;cases H;exact xy2 lC mj (h.se 4 [1])
def lp(K:Nat)(O:aB):Nat->(List (List Int))->Int->Option ((List (List Int)))
 | 0,_,_=>none
 | k1+1,HV,tQ=>(if tQ<(((List.replicate O.ai.length ([]:List Int)).length:Nat):Int)then if 0<=O.bQ/\O.bQ*8<=140737488355328 then if bJ tQ HV.length then(lp K O k1 (HV.set tQ.toNat (List.replicate O.bQ.toNat (0:Int))) (wi (tQ+1)))else none else none else some HV)
def lq(K:Nat)(O:aB)(mK:Int)(Eu:List Int):Nat->(List (List Int))->Int->Option ((List (List Int)))
 | 0,_,_=>none
 | k3+1,Hl,DC=>(if DC<(((List.replicate O.ai.length ([]:List Int)).length:Nat):Int)then if bJ DC Hl.length then if bJ DC Eu.length then if bJ mK (J Hl DC.toNat).length then(lq K O mK Eu k3 (Hl.set DC.toNat ((J Hl DC.toNat).set mK.toNat (J Eu DC.toNat))) (wi (DC+1)))else none else none else none else some Hl)
def lu(K:Nat)(O:aB):Nat->(List (List Int))->Int->Option ((List (List Int)))
 | 0,_,_=>none
 | k2+1,Ak,mK=>(if mK<O.bQ then dX (dX (mU K O mK) (λEu=>(lq K O mK Eu K Ak 0))) (λNO=>(lu K O k2 NO (wi (mK+1))))else some Ak)
def rZ(K:Nat)(O:aB):Option ((List (List Int))):=
 dX (tO K O) (λr2=>(if r2=true then if 0<=((O.ai.length:Nat):Int)/\((O.ai.length:Nat):Int)*24<=140737488355328 then dX ((lp K O K (List.replicate O.ai.length ([]:List Int)) 0)) (λl7=>(lu K O K l7 0))else none else some ([]:List (List Int))))
theorem DD(H:rZ K O=some r0)(h:iJ z (L) w)(cE:bI L 5 cU bz O.ai) :
 Calls Tryz.prog 53 #[oV #[Z O.aS,Z O.dh,Z O.bQ,aW bz O.ai.length bZ]] w λe w=>∃y1 y2,e=.returned (aW y1 r0.length y2)/\Fit z (aD (LB y1 y2 r0::L)) w:=by
 unfold rZ at H;refine ke func53 55 rfl λj=>ks<|kN h (#[Z O.aS,Z O.dh,Z O.bQ,aW bz O.ai.length bZ]) 85 λb1 w h=>bS<|G<|ks<|kM h<|fP H λr2 e3 H=>eW (CR (bz:=bz) (bZ:=bZ) (cE:=(bI.up 1 cE)) e3 h :) λw h=>bS<|G<|wq<|aL [U,vB (!r2)]<|G<|FZ H (λc4 H=>?_) λc4 H=>?_
 ·refine fT<|aL [U]<|kL h 3<|qg H λc5 H=>ko [Z ((O.ai.length:Nat):Int)]<|λ_ r=>E7 (own:=jR) (i:=((O.ai.length:Nat):Int)) (bytes:=24) (zc:=#[aW none 0 0]) ([]:List Int) (wn rfl) rfl rfl r rfl aZ aZ c5 rfl (by simp[Value.oneCell']) gB (E:=28) aZ aZ rfl (λh=>iQ (x:=([]:List Int)) (vp:=none) (vr:=0) (h.fC)) h λFH w _ h r=>qq r<|bS<|G<|EM H λo9 H NL=>λ_ r=>cW (β:=Unit) (λ_ a w=>∃l7:List (List Int),l7=o9/\∃j,jY 55 (lk [(1,pA b1 0),(4,aW FH (List.replicate O.ai.length ([]:List Int)).length O.ai.length)] j) a/\Fit z (aD (sK b1 O bz bZ::uk 28 1 jR (aW FH (List.replicate O.ai.length ([]:List Int)).length O.ai.length) l7::L)) w) ?_ ?_
  ·refine qq r<|gP<|wb<|λ_ r=>dr (β:=Nat) id (λm a w=>∃HV:List (List Int),∃tQ:Int,(lp K O m HV tQ)=some o9/\∃j,jY 55 (lk [(1,pA b1 0),(4,aW FH (List.replicate O.ai.length ([]:List Int)).length O.ai.length),(5,Z tQ)] j) a/\Fit z (aD (sK b1 O bz bZ::uk 28 1 jR (aW FH (List.replicate O.ai.length ([]:List Int)).length O.ai.length) HV::L)) w) K ⟨(List.replicate O.ai.length ([]:List Int)),0,H,r.fj (h.se 2 [1,0])⟩<|?_;clear h r H;rintro k1 a w ⟨HV,tQ,H,j,r,h⟩;cases k1 with
   | zero=>exact absurd H (by simp[lp])
   | succ k1 =>
    rw[lp]at H;refine qq r<|wq<|aL [U,U,Z (((List.replicate O.ai.length ([]:List Int)).length:Nat):Int),dm (tQ<(((List.replicate O.ai.length ([]:List Int)).length:Nat):Int))]<|G<|dK H (λEt H=>?_) λEt H=>?_
    ·refine fT<|wq<|wb<|wl<|ko kJ<|kL h 2<|qg H λyI H=>λ_ r=>tX (i:=O.bQ) (bytes:=8) (zc:=#[Z 0]) (0:Int) (wn rfl) rfl rfl r rfl aZ aZ yI aJ (E:=3) aZ aZ rfl rfl h λSi w _ h r=>qq r<|qg H λpT H=>kp (mR FH tQ 1) (HQ (k:=.i64) (E:=28) rfl aZ aZ aZ aZ (h.pick 2) pT)<|?_;obtain⟨afF,h⟩:=h.m2.ng (bj pT);obtain⟨afG,afH,Ew,h⟩:=oe (h.m1);subst Ew;refine qh h.m1 λh=>λ_ r=>D6 (wn rfl) rfl r rfl aZ aZ (v:=aW Si (List.replicate O.bQ.toNat (0:Int)).length O.bQ.toNat) rfl rfl aZ aZ h (i:=tQ.toNat) (f:=0) gB λw h=>qq r<|kl<|bn<|tn<|wl<|ko [U,Z (wi (tQ+1)),Z (wi (tQ+1))]<|G<|qh h.m2 λh=>?_;replace h:=iQ (x:=(List.replicate O.bQ.toNat (0:Int))) h;replace h:=(h.m1).AA;exact λ_ r=>⟨_,⟨(HV.set tQ.toNat (List.replicate O.bQ.toNat (0:Int))),(wi (tQ+1)),H,r.fj (h.se 3 [2,0])⟩,ie _⟩
    refine wx<|te<|te<|bh<|tn<|?_;exact λ_ r=>⟨(),HV,fV H,r.fj h⟩
  clear h r;rintro _ a w ⟨l7,rfl,j,r,h⟩;replace H:=EK NL;refine qq r<|wq<|gP<|wb<|λ_ r=>dr (β:=Nat) id (λm a w=>∃Ak:List (List Int),∃mK:Int,(lu K O m Ak mK)=some r0/\∃j,jY 55 (lk [(1,pA b1 0),(4,aW FH (List.replicate O.ai.length ([]:List Int)).length O.ai.length),(6,Z mK)] j) a/\Fit z (aD (sK b1 O bz bZ::uk 28 1 jR (aW FH (List.replicate O.ai.length ([]:List Int)).length O.ai.length) Ak::L)) w) K ⟨l7,0,H,r.fj h⟩<|?_;clear h r H;rintro k2 a w ⟨Ak,mK,H,j,r,h⟩;cases k2 with
  | zero=>exact absurd H (by simp[lu])
  | succ k2 =>
   rw[lu]at H;refine qq r<|wq<|aL da<|kL h 2<|ko [dm (mK<O.bQ)]<|G<|dK H (λF5 H=>?_) λF5 H=>?_
   ·refine fT<|EM H λo25 H aau=>λ_ r=>cW (β:=Unit) (λ_ a w=>∃NO:List (List Int),NO=o25/\∃j,jY 55 (lk [(1,pA b1 0),(4,aW FH (List.replicate O.ai.length ([]:List Int)).length O.ai.length),(6,Z mK)] j) a/\Fit z (aD (sK b1 O bz bZ::uk 28 1 jR (aW FH (List.replicate O.ai.length ([]:List Int)).length O.ai.length) NO::L)) w) ?_ ?_
    ·refine qq r<|wb<|ks<|kM h<|fP H λEu Sj H=>bS<|UE (ze (bz:=bz) (bZ:=bZ) (cE:=(bI.up 2 cE)) Sj h :) λSk F7 w h=>bS<|G<|gP<|wb<|λ_ r=>dr (β:=Nat) id (λm a w=>∃Hl:List (List Int),∃DC:Int,(lq K O mK Eu m Hl DC)=some o25/\∃j,jY 55 (lk [(1,pA b1 0),(4,aW FH (List.replicate O.ai.length ([]:List Int)).length O.ai.length),(6,Z mK),(7,aW Sk Eu.length F7),(8,Z DC)] j) a/\Fit z (aD (sK b1 O bz bZ::uk 28 1 jR (aW FH (List.replicate O.ai.length ([]:List Int)).length O.ai.length) Hl::zu Sk F7 Eu::L)) w) K ⟨Ak,0,H,r.fj (h.se 3 [1,2,0])⟩<|?_;clear h r H;rintro k3 a w ⟨Hl,DC,H,j,r,h⟩;cases k3 with
     | zero=>exact absurd H (by simp[lq])
     | succ k3 =>
      rw[lq]at H;refine qq r<|wq<|aL [U,U,Z (((List.replicate O.ai.length ([]:List Int)).length:Nat):Int),dm (DC<(((List.replicate O.ai.length ([]:List Int)).length:Nat):Int))]<|G<|dK H (λEP H=>?_) λEP H=>?_
      ·refine fT<|wq<|wb<|qg H λCf H=>?_;obtain⟨afI,h⟩:=h.m1.ng (bj Cf);obtain⟨LK,NP,US,h⟩:=oe (h.m1);subst US;refine qg H λFJ H=>qg H λJ0 H=>mJ [(dJ FH,DC.toNat*1,[aW LK (J Hl DC.toNat).length NP]),(dJ Sk,DC.toNat*1,[Z (J Eu DC.toNat)])] [2,7] 11 h (λh=>⟨⟨(h.pick 1).qP gB (f:=0) rfl,bR⟩,⟨(h.pick 3).cy aJ (f:=0) (bj FJ) rfl,bR⟩,bR⟩) λw h hd =>mg hd 9 [(0,44,aW FH (List.replicate O.ai.length ([]:List Int)).length O.ai.length),(1,45,Z DC)]<|nr hd 8 2 rfl (mR FH DC 1) (λw=>ye (k:=.i64) (E:=28) rfl aZ aZ aZ aZ (h.pick 1) Cf)<|mg hd 5 [(4,48,Z mK),(5,49,aW Sk Eu.length F7),(6,50,Z DC)]<|nr hd 4 7 rfl (mR Sk DC 1) (λw=>uI 3 rfl (h.pick 3) FJ)<|eI hd 0 3 3 rfl<|eI hd 1 2 8 rfl<|nr hd 1 9 rfl (mR LK mK 1) (λw=>uI 3 rfl h J0)<|λ_ r=>lj 10 rfl<|Lr (wn rfl) r aJ h mK.toNat 0 (Z (J Eu DC.toNat)) (J (J Hl DC.toNat) mK.toNat) (J Eu DC.toNat) (bj J0) λw h=>qq r<|G<|mu<|mM<|bn<|tn<|wl<|ko [U,Z (wi (DC+1)),Z (wi (DC+1))]<|G<|?_;replace h:=h.Lt (λq_=>CG 28 1 jR (aW FH (List.replicate O.ai.length ([]:List Int)).length O.ai.length) Hl DC.toNat [aW LK q_ NP]);replace h:=iQ (x:=((J Hl DC.toNat).set mK.toNat (J Eu DC.toNat))) h;replace h:=(h.m1).AA;exact λ_ r=>⟨_,⟨(Hl.set DC.toNat ((J Hl DC.toNat).set mK.toNat (J Eu DC.toNat))),(wi (DC+1)),H,r.fj (h.se 3 [1,0,2])⟩,ie _⟩
      refine wx<|te<|te<|bh<|bn<|tn<|?_;exact λ_ r=>⟨(),Hl,fV H,r.fj (h.se 3 [0,1])⟩
    clear h r;rintro _ a w ⟨NO,rfl,j,r,h⟩;replace H:=EK aau;refine qq r<|wl<|ko [U,Z (wi (mK+1)),Z (wi (mK+1))]<|G<|?_;exact λ_ r=>⟨_,⟨NO,(wi (mK+1)),H,r.fj h⟩,ie _⟩
   refine wx<|te<|te<|bh<|tn<|aL da<|bY<|λ_ r=>rX (aW FH (List.replicate O.ai.length ([]:List Int)).length O.ai.length) rfl r<|qh h.m1 λh=>?_;have UW:(List.replicate O.ai.length ([]:List Int)).length=Ak.length:=h.O0;replace h:=Fit.II UW (λq_=>uk 28 1 jR (aW FH q_ O.ai.length) Ak) h;cases H;exact⟨FH,O.ai.length,(by first | rfl | simp only[UW]),h.se 2 [0]⟩
 refine gP<|wr<|tr<|λ_ r=>rX (aW none 0 0) rfl r<|?_;replace h:=h.E4 (e:=28) (sz:=1) (own:=jR);cases H;exact⟨none,0,rfl,h.se 2 [0]⟩
def gV(K:Nat)(Y:List Int):Nat->Int->Option (Int)
 | 0,_=>none
 | k1+1,g9=>(if g9<((Y.length:Nat):Int)then if bJ g9 Y.length then(if(iu (J Y g9.toNat) (2:Int))=0 then(gV K Y k1 (wi (g9+1)))else some 56)else none else some 0)
def nI(K:Nat)(O:cr)(Y:List Int):Option (Int):=
 (if O.aG=5 then if bJ O.A Y.length then(if(iu (J Y O.A.toNat) (2:Int))=0 then some 0 else some 54)else none else(if O.aG=7 then if bJ O.B Y.length then(if(iu (J Y O.B.toNat) (3:Int))=0 then some 0 else some 55)else none else(if O.aG=9 then(gV K Y K 0)else some 0)))
theorem zR(H:nI K O Y=some r0)(h:iJ z (L) w)(F8:bI L 1 aK ER Y) :
 nH 54 #[gO O,aW ER Y.length GV] w z (Z r0) (L):=by
 unfold nI at H;refine ke func54 40 rfl λj=>ks<|kN h (lP O) 132 λb1 w h=>bS<|G<|wq<|aL [U]<|kL h 0<|G<|wb<|aL [vB (O.aG==5),vB (O.aG==5)]<|G<|dK H (λc2 H=>?_) λc2 H=>?_
 ·refine aL da<|kL h 1<|qg H λc3 H=>kj 3 GV F8 c3<|zz (Z (J Y O.A.toNat)) (F8.cell c3 (h.dn 1) 0 rfl)<|?_;refine kp (Z (iu (J Y O.A.toNat) (2:Int))) (rand rfl aZ aZ)<|ko [vB ((iu (J Y O.A.toNat) (2:Int)) != 0)]<|G<|rV H (λc4 H=>?_) λc4 H=>?_
  ·refine wk<|bn<|tn<|gP<|wr<|?_;cases H;exact fU (h.se 1 [])
  refine gP<|wr<|br<|tr<|?_;cases H;exact fU (h.se 1 [])
 refine aL [vB (O.aG==7),vB (O.aG==7)]<|G<|dK H (λc5 H=>?_) λc5 H=>?_
 ·refine aL da<|kL h 2<|qg H λc6 H=>kj 3 GV F8 c6<|zz (Z (J Y O.B.toNat)) (F8.cell c6 (h.dn 1) 0 rfl)<|?_;refine kp (Z (iu (J Y O.B.toNat) (3:Int))) (rand rfl aZ aZ)<|ko [vB ((iu (J Y O.B.toNat) (3:Int)) != 0)]<|G<|rV H (λc7 H=>?_) λc7 H=>?_
  ·refine wk<|bn<|tn<|gP<|wr<|?_;cases H;exact fU (h.se 1 [])
  refine gP<|wr<|br<|tr<|?_;cases H;exact fU (h.se 1 [])
 refine aL [vB (O.aG==9),vB (O.aG==9)]<|G<|dK H (λc8 H=>?_) λc8 H=>?_
 ·refine gP<|wb<|λ_ r=>dr (β:=Nat) id (λm a w=>∃g9:Int,(gV K Y m g9)=some r0/\∃j,jY 40 (lk [(1,aW ER Y.length GV),(5,Z g9)] j) a/\Fit z (aD (L)) w) K ⟨0,H,r.fj (h.se 1 [])⟩<|?_;clear h r H;rintro k1 a w ⟨g9,H,j,r,h⟩;cases k1 with
  | zero=>exact absurd H (by simp[gV])
  | succ k1 =>
   rw[gV]at H;refine qq r<|wq<|aL [U,U,Z ((Y.length:Nat):Int),dm (g9<((Y.length:Nat):Int))]<|G<|dK H (λpe H=>?_) λpe H=>?_
   ·refine fT<|wq<|wb<|ks<|qg H λvH H=>ko da<|kj 3 GV F8 vH<|zz (Z (J Y g9.toNat)) (F8.cell vH (h.dn 0) 0 rfl)<|?_;refine kp (Z (iu (J Y g9.toNat) (2:Int))) (rand rfl aZ aZ)<|ko [vB ((iu (J Y g9.toNat) (2:Int)) != 0)]<|G<|rV H (λEt H=>?_) λEt H=>?_
    ·refine wk<|bn<|tn<|wl<|ko [U,Z (wi (g9+1)),Z (wi (g9+1))]<|G<|?_;exact λ_ r=>⟨_,⟨(wi (g9+1)),H,r.fj h⟩,ie _⟩
    refine gP<|wr<|br<|tr<|tr<|br<|br<|tr<|?_;cases H;exact fU h
   refine wx<|te<|te<|bh<|bn<|tn<|gP<|wr<|?_;cases H;exact fU h
 refine wk<|bn<|tn<|gP<|wr<|?_;cases H;exact fU (h.se 1 [])
def ji(K:Nat)(O:aE):Nat->Int->Option ((Unit)⊕(eN))
 | 0,_=>none
 | k1+1,g9=>(if g9<((O.ah.length:Nat):Int)then if bJ g9 O.ah.length then dX (j8 (J O.ah g9.toNat)) (λpH=>(if pH=true then(ji K O k1 (wi (g9+1)))else some (.inr (⟨51,g9,0⟩:eN))))else none else some (.inl ()))
def jk(K:Nat)(O:aE)(nA:Int):Nat->Int->Option ((Unit)⊕((Unit)⊕((Unit)⊕(eN))))
 | 0,_=>none
 | k3+1,AH=>(if AH<(((J O.ah nA.toNat).ai.length:Nat):Int)then if bJ AH (J O.ah nA.toNat).ai.length then dX (oB (J O.ah nA.toNat) (J (J O.ah nA.toNat).ai AH.toNat)) (λAJ=>(if AJ=true then dX (pU O (J O.ah nA.toNat) (J (J O.ah nA.toNat).ai AH.toNat)) (λBx=>(if Bx=true then(jk K O nA k3 (wi (AH+1)))else some (.inr (.inr (.inr (⟨52,nA,AH⟩:eN))))))else some (.inr (.inr (.inr (⟨52,nA,AH⟩:eN))))))else none else some (.inl ()))
def jl(K:Nat)(O:aE):Nat->Int->Option ((Unit)⊕(eN))
 | 0,_=>none
 | k2+1,nA=>(if nA<((O.ah.length:Nat):Int)then Ax (if bJ nA O.ah.length then Ax ((jk K O nA K 0)) (dX (nN (J O.ah nA.toNat)) (λug=>(if ug=true then some (.inl ())else some (.inr (.inr (⟨53,nA,wi ((((J O.ah nA.toNat).ai.length:Nat):Int)-1)⟩:eN))))))else none) ((jl K O k2 (wi (nA+1))))else some (.inl ()))
def jm(K:Nat)(O:aE)(oW:Int)(NQ:List (List Int)):Nat->Int->Option ((Unit)⊕(eN))
 | 0,_=>none
 | k5+1,tP=>(if tP<(((J O.ah oW.toNat).ai.length:Nat):Int)then if bJ tP (J O.ah oW.toNat).ai.length then if bJ tP NQ.length then dX (nI K (J (J O.ah oW.toNat).ai tP.toNat) (J NQ tP.toNat)) (λNR=>(if NR=0 then(jm K O oW NQ k5 (wi (tP+1)))else some (.inr (⟨NR,oW,tP⟩:eN))))else none else none else some (.inl ()))
def j9(K:Nat)(O:aE):Nat->Int->Option (eN)
 | 0,_=>none
 | k4+1,oW=>(if oW<((O.ah.length:Nat):Int)then Ax (if bJ oW O.ah.length then dX (rZ K (J O.ah oW.toNat)) (λNQ=>(jm K O oW NQ K 0))else none) ((j9 K O k4 (wi (oW+1))))else some (⟨0,0,0⟩:eN))
def jc(K:Nat)(O:aE):Option (eN):=
 Ax ((if((O.ah.length:Nat):Int)<1 then some (.inr (⟨50,0,0⟩:eN))else(if((O.ah.length:Nat):Int)>32 then some (.inr (⟨50,0,0⟩:eN))else some (.inl ())))) (Ax ((ji K O K 0)) (Ax ((jl K O K 0)) ((j9 K O K 0))))
abbrev yj:List Value:=[U,U,U,U]
theorem xh(H:jc K O=some r0)(h:iJ z (L) w)(aP:zb L aT aI O.ah) :
 nH 35 #[oV #[aW aT O.ah.length bt]] w z (CO r0) (L):=by
 unfold jc at H;refine ke func35 131 rfl λj=>ks<|kN h (#[aW aT O.ah.length bt]) 24 λb1 w h=>kN h (#[Z 0,Z 0,Z 0]) 81 λb2 w h=>G<|?_;obtain⟨o4,H,Pd⟩:=FU H;refine λ_ r=>cW (β:=Unit) (λ_ a w=>.inl ()=o4/\∃j,jY 131 (lk [(1,pA b1 0),(2,pA b2 0)] j) a/\Fit z (aD (fS b1 #[aW aT O.ah.length bt] 24::fS b2 #[Z 0,Z 0,Z 0] 81::L)) w) ?_ ?_
 ·refine qq r<|aL [U]<|kL (h.pick 1) 0<|ko [Z ((O.ah.length:Nat):Int),dm (((O.ah.length:Nat):Int)<1),dm (((O.ah.length:Nat):Int)<1)]<|qI H (λc5 H=>?_) λc5 H=>?_
  ·refine cg (dT c5) [19,20,21,22]<|oJ (dT c5) (vB true)<|G<|λ_ r=>fW r (b:=true) rfl<|qq r<|aL [U]<|kA h (fS b2 #[Z 50,Z 0,Z 0] 81) λw h=>bY<|tr<|kC h<|?_;replace H:=wL H Pd;cases H;exact⟨rfl,h.se 2 []⟩
  refine cT (dF c5) [19] [pA b1 0]<|vz (dF c5) (h.pick 1) 0<|cT (dF c5) [21,22] [Z ((O.ah.length:Nat):Int),dm (((O.ah.length:Nat):Int)>32)]<|oz (dF c5) (dm (((O.ah.length:Nat):Int)>32))<|G<|dK H (λc6 H=>?_) λc6 H=>?_
  ·refine aL [U]<|kA h (fS b2 #[Z 50,Z 0,Z 0] 81) λw h=>bY<|tr<|kC h<|?_;replace H:=wL H Pd;cases H;exact⟨rfl,h.se 2 []⟩
  refine fT<|?_;exact λ_ r=>⟨(),fV H,r.fj (h.se 2 [1,0])⟩
 clear h r;rintro _ a w ⟨rfl,j,r,h⟩;replace H:=FV Pd;obtain⟨o8,H,LL⟩:=FU H;refine cW (β:=Unit) (λ_ a w=>.inl ()=o8/\∃j,jY 131 (lk [(1,pA b1 0),(2,pA b2 0)] j) a/\Fit z (aD (fS b1 #[aW aT O.ah.length bt] 24::fS b2 #[Z 0,Z 0,Z 0] 81::L)) w) ?_ ?_
 ·refine qq r<|gP<|wb<|λ_ r=>dr (β:=Nat) id (λm a w=>∃g9:Int,(ji K O m g9)=some o8/\∃j,jY 131 (lk [(1,pA b1 0),(2,pA b2 0),(3,Z g9)] j) a/\Fit z (aD (fS b1 #[aW aT O.ah.length bt] 24::fS b2 #[Z 0,Z 0,Z 0] 81::L)) w) K ⟨0,H,r.fj h⟩<|?_;clear h r H;rintro k1 a w ⟨g9,H,j,r,h⟩;cases k1 with
  | zero=>exact absurd H (by simp[ji])
  | succ k1 =>
   rw[ji]at H;refine qq r<|wq<|aL da<|kL h 0<|ko [Z ((O.ah.length:Nat):Int),dm (g9<((O.ah.length:Nat):Int))]<|G<|dK H (λpe H=>?_) λpe H=>?_
   ·refine fT<|wq<|wb<|aL [U]<|kL h 0<|qg H λvH H=>bS<|kp (pA (dJ aT) (jf aT+g9.toNat*4)) (Dz 85 bt rfl rfl aP vH)<|yw (oV #[Z (J O.ah g9.toNat).aS,Z (J O.ah g9.toNat).dh,Z (J O.ah g9.toNat).bQ,aW ((aI g9.toNat).1) (J O.ah g9.toNat).ai.length ((aI g9.toNat).2)]) (cs:=[Z (J O.ah g9.toNat).aS,Z (J O.ah g9.toNat).dh,Z (J O.ah g9.toNat).bQ,aW ((aI g9.toNat).1) (J O.ah g9.toNat).ai.length ((aI g9.toNat).2)]) ⟨aP.cell vH (h.dn 2) 0 rfl,aP.cell vH (h.dn 2) 1 rfl,aP.cell vH (h.dn 2) 2 rfl,aP.cell vH (h.dn 2) 3 rfl,bR⟩<|?_;refine fP H λpH UX H=>eW (wE (bz:=((aI g9.toNat).1)) (bZ:=((aI g9.toNat).2)) (cE:=(bI.up 2 (aP.vT vH))) UX h :) λw h=>bS<|G<|aL [U,vB (!pH)]<|G<|FZ H (λxF H=>?_) λxF H=>?_
    ·refine wk<|bn<|tn<|wl<|ko [U,Z (wi (g9+1)),Z (wi (g9+1))]<|G<|?_;exact λ_ r=>⟨_,⟨(wi (g9+1)),H,r.fj h⟩,ie _⟩
    refine aL da<|qh h.m1 λh=>kA h (fS b2 #[Z 51,Z g9,Z 0] 81) λw h=>bY<|br<|tr<|tr<|br<|tr<|kC h<|?_;replace H:=wL H LL;cases H;exact⟨rfl,h.se 2 []⟩
   refine wx<|te<|te<|bh<|tn<|?_;exact λ_ r=>⟨(),fV H,r.fj h⟩
 clear h r;rintro _ a w ⟨rfl,j,r,h⟩;replace H:=FV LL;obtain⟨o16,H,XG⟩:=FU H;refine cW (β:=Unit) (λ_ a w=>.inl ()=o16/\∃j,jY 131 (lk [(1,pA b1 0),(2,pA b2 0)] j) a/\Fit z (aD (fS b1 #[aW aT O.ah.length bt] 24::fS b2 #[Z 0,Z 0,Z 0] 81::L)) w) ?_ ?_
 ·refine qq r<|gP<|wb<|λ_ r=>dr (β:=Nat) id (λm a w=>∃nA:Int,(jl K O m nA)=some o16/\∃j,jY 131 (lk [(1,pA b1 0),(2,pA b2 0),(5,Z nA)] j) a/\Fit z (aD (fS b1 #[aW aT O.ah.length bt] 24::fS b2 #[Z 0,Z 0,Z 0] 81::L)) w) K ⟨0,H,r.fj h⟩<|?_;clear h r H;rintro k2 a w ⟨nA,H,j,r,h⟩;cases k2 with
  | zero=>exact absurd H (by simp[jl])
  | succ k2 =>
   rw[jl]at H;refine qq r<|wq<|aL da<|kL h 0<|ko [Z ((O.ah.length:Nat):Int),dm (nA<((O.ah.length:Nat):Int))]<|G<|dK H (λBz H=>?_) λBz H=>?_
   ·refine fT<|?_;obtain⟨o20,H,XH⟩:=FU H;refine λ_ r=>cW (β:=Unit) (λ_ a w=>.inl ()=o20/\∃j,jY 131 (lk [(1,pA b1 0),(2,pA b2 0),(5,Z nA)] j) a/\Fit z (aD (fS b1 #[aW aT O.ah.length bt] 24::fS b2 #[Z 0,Z 0,Z 0] 81::L)) w) ?_ ?_
    ·refine qq r<|wb<|aL [U]<|kL h 0<|qg H λsL H=>bS<|kp (pA (dJ aT) (jf aT+nA.toNat*4)) (Dz 85 bt rfl rfl aP sL)<|yw (oV #[Z (J O.ah nA.toNat).aS,Z (J O.ah nA.toNat).dh,Z (J O.ah nA.toNat).bQ,aW ((aI nA.toNat).1) (J O.ah nA.toNat).ai.length ((aI nA.toNat).2)]) (cs:=[Z (J O.ah nA.toNat).aS,Z (J O.ah nA.toNat).dh,Z (J O.ah nA.toNat).bQ,aW ((aI nA.toNat).1) (J O.ah nA.toNat).ai.length ((aI nA.toNat).2)]) ⟨aP.cell sL (h.dn 2) 0 rfl,aP.cell sL (h.dn 2) 1 rfl,aP.cell sL (h.dn 2) 2 rfl,aP.cell sL (h.dn 2) 3 rfl,bR⟩<|?_;refine kN h (#[Z 0,Z 0,Z 0,aW none 0 0]) 85 λzS w h=>kA h (sK zS (J O.ah nA.toNat) ((aI nA.toNat).1) ((aI nA.toNat).2)) λw h=>G<|?_;obtain⟨o24,H,J1⟩:=FU H;refine λ_ r=>cW (β:=Unit) (λ_ a w=>.inl ()=o24/\∃j,jY 131 (lk [(1,pA b1 0),(2,pA b2 0),(5,Z nA),(6,pA zS 0)] j) a/\Fit z (aD (fS b1 #[aW aT O.ah.length bt] 24::fS b2 #[Z 0,Z 0,Z 0] 81::sK zS (J O.ah nA.toNat) ((aI nA.toNat).1) ((aI nA.toNat).2)::L)) w) ?_ ?_
     ·refine qq r<|gP<|wb<|λ_ r=>dr (β:=Nat) id (λm a w=>∃AH:Int,(jk K O nA m AH)=some o24/\∃j,jY 131 (lk [(1,pA b1 0),(2,pA b2 0),(5,Z nA),(6,pA zS 0),(7,Z AH)] j) a/\Fit z (aD (fS b1 #[aW aT O.ah.length bt] 24::fS b2 #[Z 0,Z 0,Z 0] 81::sK zS (J O.ah nA.toNat) ((aI nA.toNat).1) ((aI nA.toNat).2)::L)) w) K ⟨0,H,r.fj (h.se 3 [1,2,0])⟩<|?_;clear h r H;rintro k3 a w ⟨AH,H,j,r,h⟩;cases k3 with
      | zero=>exact absurd H (by simp[jk])
      | succ k3 =>
       rw[jk]at H;refine qq r<|wq<|aL da<|kL (h.pick 2) 3<|ko [Z (((J O.ah nA.toNat).ai.length:Nat):Int),dm (AH<(((J O.ah nA.toNat).ai.length:Nat):Int))]<|G<|dK H (λDs H=>?_) λDs H=>?_
       ·refine fT<|wq<|wb<|wq<|qg H λsX H=>fP H λAJ WQ H=>qI H (λvD H=>?_) λvD H=>?_
        ·refine fP H λBx Pe H=>mJ [(zS,0,[Z (J O.ah nA.toNat).aS,Z (J O.ah nA.toNat).dh,Z (J O.ah nA.toNat).bQ,aW ((aI nA.toNat).1) (J O.ah nA.toNat).ai.length ((aI nA.toNat).2)]),(zS,3,[aW ((aI nA.toNat).1) (J O.ah nA.toNat).ai.length ((aI nA.toNat).2)]),(dJ ((aI nA.toNat).1),jf ((aI nA.toNat).1)+AH.toNat*5,gq (J (J O.ah nA.toNat).ai AH.toNat)),(b1,0,[aW aT O.ah.length bt]),(zS,0,[Z (J O.ah nA.toNat).aS,Z (J O.ah nA.toNat).dh,Z (J O.ah nA.toNat).bQ,aW ((aI nA.toNat).1) (J O.ah nA.toNat).ai.length ((aI nA.toNat).2)]),(zS,3,[aW ((aI nA.toNat).1) (J O.ah nA.toNat).ai.length ((aI nA.toNat).2)]),(dJ ((aI nA.toNat).1),jf ((aI nA.toNat).1)+AH.toNat*5,gq (J (J O.ah nA.toNat).ai AH.toNat))] [1,4,6,7,11,14] 19 h (λh=>⟨((h.pick 2).held 0 rfl),⟨(h.pick 2).cell 3 rfl,bR⟩,⟨(aP.vT sL).cell sX (h.dn 3) 0 rfl,(aP.vT sL).cell sX (h.dn 3) 1 rfl,(aP.vT sL).cell sX (h.dn 3) 2 rfl,(aP.vT sL).cell sX (h.dn 3) 3 rfl,(aP.vT sL).cell sX (h.dn 3) 4 rfl,bR⟩,⟨h.cell 0 rfl,bR⟩,((h.pick 2).held 0 rfl),⟨(h.pick 2).cell 3 rfl,bR⟩,⟨(aP.vT sL).cell sX (h.dn 3) 0 rfl,(aP.vT sL).cell sX (h.dn 3) 1 rfl,(aP.vT sL).cell sX (h.dn 3) 2 rfl,(aP.vT sL).cell sX (h.dn 3) 3 rfl,(aP.vT sL).cell sX (h.dn 3) 4 rfl,bR⟩,bR⟩) λw h hd =>mg hd 17 [(1,62,pA zS 3),(3,64,Z AH)]<|yh hd 0 16 0 rfl rfl<|eI hd 1 15 2 rfl<|nr hd 14 4 rfl (pA (dJ ((aI nA.toNat).1)) (jf ((aI nA.toNat).1)+AH.toNat*5)) (λw=>Ff 132 ((aI nA.toNat).2) rfl rfl (aP.vT sL) sX)<|yh hd 2 13 5 rfl rfl<|lB 6 rfl<|eW (tZ (bz:=((aI nA.toNat).1)) (bZ:=((aI nA.toNat).2)) (cE:=(bI.up 3 (aP.vT sL))) WQ h :) λw h=>G<|wo ⟨((h.pick 2).held 0 rfl),⟨(h.pick 2).cell 3 rfl,bR⟩,⟨(aP.vT sL).cell sX (h.dn 3) 0 rfl,(aP.vT sL).cell sX (h.dn 3) 1 rfl,(aP.vT sL).cell sX (h.dn 3) 2 rfl,(aP.vT sL).cell sX (h.dn 3) 3 rfl,(aP.vT sL).cell sX (h.dn 3) 4 rfl,bR⟩,⟨h.cell 0 rfl,bR⟩,((h.pick 2).held 0 rfl),⟨(h.pick 2).cell 3 rfl,bR⟩,⟨(aP.vT sL).cell sX (h.dn 3) 0 rfl,(aP.vT sL).cell sX (h.dn 3) 1 rfl,(aP.vT sL).cell sX (h.dn 3) 2 rfl,(aP.vT sL).cell sX (h.dn 3) 3 rfl,(aP.vT sL).cell sX (h.dn 3) 4 rfl,bR⟩,bR⟩ λhd =>lW hd 10 61 [([7,8],vB (!AJ))]<|λ_ r=>FG hd 9 11 rfl (nL r (nT vD)) r (pA zS 3)<|?_;refine λ_ r=>FG hd 8 13 rfl (nL r (nT vD)) r (Z AH)<|?_;refine λ_ r=>elm hd 3 7 9 r (nL r (nT vD)) rfl rfl<|?_;refine λ_ r=>elm hd 4 6 10 r (nL r (nT vD)) rfl rfl<|?_;refine λ_ r=>elx hd 5 5 12 r (nL r (nT vD)) rfl rfl<|?_;refine λ_ r=>FG hd 4 14 rfl (nL r (nT vD)) r (pA (dJ ((aI nA.toNat).1)) (jf ((aI nA.toNat).1)+AH.toNat*5)) (hrun:=λw=>Ff 132 ((aI nA.toNat).2) rfl rfl (aP.vT sL) sX)<|?_;refine λ_ r=>elm hd 6 3 15 r (nL r (nT vD)) rfl rfl<|?_
         refine lB 16 rfl<|xg0 (nT vD) (Cg (aT:=aT) (bt:=bt) (aP:=(yf.up 3 aP)) (dk:=((aI nA.toNat).1)) (dy:=((aI nA.toNat).2)) (eR:=(bI.up 3 (aP.vT sL))) (aI:=aI) Pe h :) λw h=>G<|λ_ r=>xE<|evs 1 17 rfl (nL r (nT vD)) r (vB (!Bx))<|?_;refine λ_ r=>evs 0 18 rfl (wn rfl) r (vB (!Bx)) (hrun:=λw=>It (b:=(!AJ)) rfl aZ (nT vD) aZ)<|?_;refine mM<|tn<|FZ H (λCf H=>?_) λCf H=>?_
         ·refine wk<|bn<|tn<|wl<|ko [U,Z (wi (AH+1)),Z (wi (AH+1))]<|G<|?_;exact λ_ r=>⟨_,⟨(wi (AH+1)),H,r.fj h⟩,ie _⟩
         refine aL kJ<|qh h.m1 λh=>kA h (fS b2 #[Z 52,Z nA,Z AH] 81) λw h=>bY<|br<|tr<|tr<|br<|tr<|br<|tr<|tr<|br<|tr<|kC h<|?_;replace H:=wL H J1;replace H:=wL H XH;replace H:=wL H XG;cases H;exact⟨rfl,h.se 3 []⟩
        refine mJ [(zS,0,[Z (J O.ah nA.toNat).aS,Z (J O.ah nA.toNat).dh,Z (J O.ah nA.toNat).bQ,aW ((aI nA.toNat).1) (J O.ah nA.toNat).ai.length ((aI nA.toNat).2)]),(zS,3,[aW ((aI nA.toNat).1) (J O.ah nA.toNat).ai.length ((aI nA.toNat).2)]),(dJ ((aI nA.toNat).1),jf ((aI nA.toNat).1)+AH.toNat*5,gq (J (J O.ah nA.toNat).ai AH.toNat))] [1,4] 19 h (λh=>⟨((h.pick 2).held 0 rfl),⟨(h.pick 2).cell 3 rfl,bR⟩,⟨(aP.vT sL).cell sX (h.dn 3) 0 rfl,(aP.vT sL).cell sX (h.dn 3) 1 rfl,(aP.vT sL).cell sX (h.dn 3) 2 rfl,(aP.vT sL).cell sX (h.dn 3) 3 rfl,(aP.vT sL).cell sX (h.dn 3) 4 rfl,bR⟩,bR⟩) λw h hd =>mg hd 17 [(1,62,pA zS 3),(3,64,Z AH)]<|yh hd 0 16 0 rfl rfl<|eI hd 1 15 2 rfl<|nr hd 14 4 rfl (pA (dJ ((aI nA.toNat).1)) (jf ((aI nA.toNat).1)+AH.toNat*5)) (λw=>Ff 132 ((aI nA.toNat).2) rfl rfl (aP.vT sL) sX)<|yh hd 2 13 5 rfl rfl<|lB 6 rfl<|eW (tZ (bz:=((aI nA.toNat).1)) (bZ:=((aI nA.toNat).2)) (cE:=(bI.up 3 (aP.vT sL))) WQ h :) λw h=>G<|mu<|iF 11 7 rfl (vB (!AJ))<|iF 10 8 rfl (vB (!AJ))<|λ_ r=>Ze 9 11 rfl (nL r (nF vD)) r<|?_;refine λ_ r=>Ze 8 13 rfl (nL r (nF vD)) r<|?_;refine λ_ r=>Ze 7 9 rfl (nL r (nF vD)) r<|?_;refine λ_ r=>Ze 6 10 rfl (nL r (nF vD)) r<|?_;refine λ_ r=>Ze 5 12 rfl (nL r (nF vD)) r<|?_;refine λ_ r=>Ze 4 14 rfl (nL r (nF vD)) r<|?_;refine λ_ r=>Ze 3 15 rfl (nL r (nF vD)) r<|?_;refine λ_ r=>lj 16 rfl<|adM (nL r (nF vD)) r<|?_;refine G<|λ_ r=>xE<|Ze 1 17 rfl (nL r (nF vD)) r<|?_;refine λ_ r=>evs 0 18 rfl (wn rfl) r (vB true) (hrun:=λw=>G8 (b:=(!AJ)) rfl aZ (nF vD) aZ)<|?_;refine mM<|tn<|λ_ r=>fW r (b:=true) rfl<|qq r<|aL kJ<|qh h.m1 λh=>kA h (fS b2 #[Z 52,Z nA,Z AH] 81) λw h=>bY<|br<|tr<|tr<|br<|tr<|br<|tr<|tr<|br<|tr<|kC h<|?_;replace H:=wL H J1;replace H:=wL H XH;replace H:=wL H XG;cases H;exact⟨rfl,h.se 3 []⟩
       refine wx<|te<|te<|bh<|tn<|?_;exact λ_ r=>⟨(),fV H,r.fj h⟩
     clear h r;rintro _ a w ⟨rfl,j,r,h⟩;replace H:=FV J1;refine qq r<|ks<|kM (h.pick 2)<|fP H λug LI H=>eW (xU (bz:=((aI nA.toNat).1)) (bZ:=((aI nA.toNat).2)) (cE:=(bI.up 3 (aP.vT sL))) LI h :) λw h=>bS<|G<|aL [U,vB (!ug)]<|G<|FZ H (λMM H=>?_) λMM H=>?_
     ·refine wk<|bn<|tn<|?_;exact λ_ r=>⟨(),fV H,r.fj (h.se 3 [0,1])⟩
     refine aL da<|kL (h.pick 2) 3<|ko [Z (((J O.ah nA.toNat).ai.length:Nat):Int),Z (wi ((((J O.ah nA.toNat).ai.length:Nat):Int)-1)),oV #[Z 53,Z nA,Z (wi ((((J O.ah nA.toNat).ai.length:Nat):Int)-1))]]<|qh h.m1 λh=>kA h (fS b2 #[Z 53,Z nA,Z (wi ((((J O.ah nA.toNat).ai.length:Nat):Int)-1))] 81) λw h=>bY<|br<|tr<|tr<|br<|tr<|kC h<|?_;replace H:=wL H XH;replace H:=wL H XG;cases H;exact⟨rfl,h.se 3 []⟩
    clear h r;rintro _ a w ⟨rfl,j,r,h⟩;replace H:=FV XH;refine qq r<|wl<|ko [U,Z (wi (nA+1)),Z (wi (nA+1))]<|G<|?_;exact λ_ r=>⟨_,⟨(wi (nA+1)),H,r.fj h⟩,ie _⟩
   refine wx<|te<|te<|bh<|tn<|?_;exact λ_ r=>⟨(),fV H,r.fj h⟩
 clear h r;rintro _ a w ⟨rfl,j,r,h⟩;replace H:=FV XG;refine qq r<|wq<|gP<|wb<|λ_ r=>dr (β:=Nat) id (λm a w=>∃oW:Int,(j9 K O m oW)=some r0/\∃j,jY 131 (lk [(1,pA b1 0),(2,pA b2 0),(9,Z oW)] j) a/\Fit z (aD (fS b1 #[aW aT O.ah.length bt] 24::fS b2 #[Z 0,Z 0,Z 0] 81::L)) w) K ⟨0,H,r.fj h⟩<|?_;clear h r H;rintro k4 a w ⟨oW,H,j,r,h⟩;cases k4 with
 | zero=>exact absurd H (by simp[j9])
 | succ k4 =>
  rw[j9]at H;refine qq r<|wq<|aL da<|kL h 0<|ko [Z ((O.ah.length:Nat):Int),dm (oW<((O.ah.length:Nat):Int))]<|G<|dK H (λFJ H=>?_) λFJ H=>?_
  ·refine fT<|?_;obtain⟨o40,H,ab2⟩:=FU H;refine λ_ r=>cW (β:=Unit) (λ_ a w=>.inl ()=o40/\∃j,jY 131 (lk [(1,pA b1 0),(2,pA b2 0),(9,Z oW)] j) a/\Fit z (aD (fS b1 #[aW aT O.ah.length bt] 24::fS b2 #[Z 0,Z 0,Z 0] 81::L)) w) ?_ ?_
   ·refine qq r<|wb<|aL [U]<|kL h 0<|qg H λAK H=>bS<|kp (pA (dJ aT) (jf aT+oW.toNat*4)) (Dz 85 bt rfl rfl aP AK)<|yw (oV #[Z (J O.ah oW.toNat).aS,Z (J O.ah oW.toNat).dh,Z (J O.ah oW.toNat).bQ,aW ((aI oW.toNat).1) (J O.ah oW.toNat).ai.length ((aI oW.toNat).2)]) (cs:=[Z (J O.ah oW.toNat).aS,Z (J O.ah oW.toNat).dh,Z (J O.ah oW.toNat).bQ,aW ((aI oW.toNat).1) (J O.ah oW.toNat).ai.length ((aI oW.toNat).2)]) ⟨aP.cell AK (h.dn 2) 0 rfl,aP.cell AK (h.dn 2) 1 rfl,aP.cell AK (h.dn 2) 2 rfl,aP.cell AK (h.dn 2) 3 rfl,bR⟩<|?_;refine kN h (#[Z 0,Z 0,Z 0,aW none 0 0]) 85 λb42 w h=>kA h (sK b42 (J O.ah oW.toNat) ((aI oW.toNat).1) ((aI oW.toNat).2)) λw h=>G<|ks<|kM h<|fP H λNQ e44 H=>UE (DD (bz:=((aI oW.toNat).1)) (bZ:=((aI oW.toNat).2)) (cE:=(bI.up 3 (aP.vT AK))) e44 h :) λXI x46 w h=>bS<|G<|gP<|wb<|λ_ r=>dr (β:=Nat) id (λm a w=>∃tP:Int,(jm K O oW NQ m tP)=some o40/\∃j,jY 131 (lk [(1,pA b1 0),(2,pA b2 0),(9,Z oW),(10,pA b42 0),(11,aW XI NQ.length x46),(12,Z tP)] j) a/\Fit z (aD (fS b1 #[aW aT O.ah.length bt] 24::fS b2 #[Z 0,Z 0,Z 0] 81::sK b42 (J O.ah oW.toNat) ((aI oW.toNat).1) ((aI oW.toNat).2)::LB XI x46 NQ::L)) w) K ⟨0,H,r.fj (h.se 4 [2,3,1,0])⟩<|?_;clear h r H;rintro k5 a w ⟨tP,H,j,r,h⟩;cases k5 with
    | zero=>exact absurd H (by simp[jm])
    | succ k5 =>
     rw[jm]at H;refine qq r<|wq<|aL da<|kL (h.pick 2) 3<|ko [Z (((J O.ah oW.toNat).ai.length:Nat):Int),dm (tP<(((J O.ah oW.toNat).ai.length:Nat):Int))]<|G<|dK H (λXF H=>?_) λXF H=>?_
     ·refine fT<|wq<|wb<|wq<|qg H λJN H=>qg H λTI H=>?_;obtain⟨afJ,h⟩:=h.m3.ng (bj TI);obtain⟨Ho,Hq,e53,h⟩:=oe (h.m1);subst e53;refine fP H λNR e56 H=>mJ [(b42,3,[aW ((aI oW.toNat).1) (J O.ah oW.toNat).ai.length ((aI oW.toNat).2)]),(dJ ((aI oW.toNat).1),jf ((aI oW.toNat).1)+tP.toNat*5,gq (J (J O.ah oW.toNat).ai tP.toNat)),(dJ XI,tP.toNat*1,[aW Ho (J NQ tP.toNat).length Hq])] [0,3,7] 11 h (λh=>⟨⟨(h.pick 4).cell 3 rfl,bR⟩,⟨(aP.vT AK).cell JN (h.dn 5) 0 rfl,(aP.vT AK).cell JN (h.dn 5) 1 rfl,(aP.vT AK).cell JN (h.dn 5) 2 rfl,(aP.vT AK).cell JN (h.dn 5) 3 rfl,(aP.vT AK).cell JN (h.dn 5) 4 rfl,bR⟩,⟨(h.pick 1).qP gB (f:=0) rfl,bR⟩,bR⟩) λw h hd =>lW hd 7 114 [([0],pA b42 3),([2],Z tP),([5],aW XI NQ.length x46),([6],Z tP)]<|nr hd 6 7 rfl (mR XI tP 1) (λw=>ye (k:=.i64) (E:=28) rfl aZ aZ aZ aZ (h.pick 1) TI)<|eI hd 0 5 1 rfl<|nr hd 4 3 rfl (pA (dJ ((aI oW.toNat).1)) (jf ((aI oW.toNat).1)+tP.toNat*5)) (λw=>Ff 132 ((aI oW.toNat).2) rfl rfl (aP.vT AK) JN)<|yh hd 1 3 4 rfl rfl<|eI hd 2 2 8 rfl<|lB 9 rfl<|eW (zR (ER:=Ho) (GV:=Hq) (F8:=(bI.FW aJ h (λh=>h))) e56 h :) λw h=>G<|mu<|iF 0 10 rfl (Z NR)<|mM<|tn<|aL [U,vB (NR != 0)]<|G<|rV H (λUY H=>?_) λUY H=>?_
      ·refine wk<|bn<|tn<|wl<|ko [U,Z (wi (tP+1)),Z (wi (tP+1))]<|G<|?_;replace h:=iQ (x:=(J NQ tP.toNat)) h;replace h:=(h.m1).iC;exact λ_ r=>⟨_,⟨(wi (tP+1)),H,r.fj (h.se 4 [1,2,3,0])⟩,ie _⟩
      refine aL yj<|qh h.m3 λh=>kA h (fS b2 #[Z NR,Z oW,Z tP] 81) λw h=>bY<|br<|tr<|tr<|br<|br<|tr<|tr<|br<|tr<|kC h<|qh h.m2.m2 λh=>?_;replace h:=iQ (x:=(J NQ tP.toNat)) h;replace h:=(h.m1).iC;replace H:=wL H ab2;cases H;exact⟨rfl,h.se 4 []⟩
     refine wx<|te<|te<|bh<|bn<|tn<|?_;exact λ_ r=>⟨(),fV H,r.fj (h.se 4 [0,1])⟩
   clear h r;rintro _ a w ⟨rfl,j,r,h⟩;replace H:=FV ab2;refine qq r<|wl<|ko [U,Z (wi (oW+1)),Z (wi (oW+1))]<|G<|?_;exact λ_ r=>⟨_,⟨(wi (oW+1)),H,r.fj h⟩,ie _⟩
  refine wx<|te<|te<|bh<|tn<|aL [U]<|qh h.m1 λh=>kA h (fS b2 #[Z 0,Z 0,Z 0] 81) λw h=>bY<|kC h<|?_;cases H;exact⟨rfl,h.se 2 []⟩
def jo(K:Nat)(O:aE)(Y:List Int)(p2:Int)(p3:dZ):Option (Int):=
 dX (jc K O) (λr3=>(if r3.xd=0 then if bJ (0:Int) O.ah.length then(if((Y.length:Nat):Int)=(J O.ah 0).aS then(if p2<1 then some 110 else(if p2>64 then some 110 else dX (kO p3) (λvC=>(if vC=true then some 111 else some 0))))else some 61)else none else some 60))
theorem AL(H:jo K O Y p2 p3=some r0)(h:iJ z (L) w)(aP:zb L aT aI O.ah)(F8:bI L 1 aK ER Y) :
 nH 14 #[oV #[aW aT O.ah.length bt],aW ER Y.length GV,Z p2,kI p3] w z (Z r0) (L):=by
 unfold jo at H;refine ke func14 35 rfl λj=>ks<|kN h (#[aW aT O.ah.length bt]) 24 λb1 w h=>kN h (lV p3) 27 λb2 w h=>bS<|G<|ks<|yw (oV #[aW aT O.ah.length bt]) (cs:=[aW aT O.ah.length bt]) ⟨(h.pick 1).cell 0 rfl,bR⟩<|?_;refine fP H λr3 e4 H=>eW (xh (aT:=aT) (bt:=bt) (aP:=(yf.up 2 aP)) (aI:=aI) e4 h :) λw h=>kN h (#[Z 0,Z 0,Z 0]) 81 λb5 w h=>kA h (abW b5 r3) λw h=>G<|wq<|wb<|aL [U]<|kL h 0<|ko [vB (r3.xd != 0),vB (r3.xd != 0)]<|G<|rV H (λc6 H=>?_) λc6 H=>?_
 ·refine aL [U,Z ((Y.length:Nat):Int),U]<|kL (h.pick 2) 0<|qg H λc7 H=>kp (pA (dJ aT) (jf aT+0*4)) (Dz 85 bt rfl rfl aP c7)<|bS<|zz (Z (J O.ah 0).aS) (aP.cell c7 (h.dn 3) 0 rfl)<|?_;refine ko [vB (((Y.length:Nat):Int) != (J O.ah 0).aS),vB (((Y.length:Nat):Int) != (J O.ah 0).aS)]<|G<|rV H (λc8 H=>?_) λc8 H=>?_
  ·refine aL [U,dm (p2<1),dm (p2<1)]<|qI H (λc9 H=>?_) λc9 H=>?_
   ·refine cg (dT c9) [29,30]<|oJ (dT c9) (vB true)<|bS<|G<|λ_ r=>fW r (b:=true) rfl<|qq r<|gP<|wr<|br<|tr<|?_;cases H;exact fU (h.se 3 [])
   refine cT (dF c9) [29,30] [Z p2,dm (p2>64)]<|oz (dF c9) (dm (p2>64))<|ko [dm (p2>64)]<|G<|dK H (λpe H=>?_) λpe H=>?_
   ·refine gP<|wr<|br<|tr<|?_;cases H;exact fU (h.se 3 [])
   refine ks<|kM (h.pick 1)<|fP H λvC Fi H=>eW (zd Fi h :) λw h=>bS<|G<|EN H (λyI H=>?_) λyI H=>?_
   ·refine gP<|wr<|br<|tr<|?_;cases H;exact fU (h.se 3 [])
   refine wk<|bn<|tn<|gP<|wr<|?_;cases H;exact fU (h.se 3 [])
  refine gP<|wr<|br<|tr<|?_;cases H;exact fU (h.se 3 [])
 refine gP<|wr<|br<|tr<|?_;cases H;exact fU (h.se 3 [])
def vY(O:aB):Option (Bool):=
 Ax ((if O.aS<0 then some (.inr false)else(if O.aS>8 then some (.inr false)else(if O.dh<1 then some (.inr false)else(if O.dh<O.aS then some (.inr false)else(if O.dh>16 then some (.inr false)else some (.inl ()))))))) ((if O.bQ>=0 then(if O.bQ<=8 then(if((O.ai.length:Nat):Int)>=1 then some (decide (((O.ai.length:Nat):Int)<=512))else some false)else some false)else some false))
theorem Hr(H:vY O=some r0)(h:iJ z (L) w)(cE:bI L 5 cU bz O.ai) :
 nH 88 #[oV #[Z O.aS,Z O.dh,Z O.bQ,aW bz O.ai.length bZ]] w z (vB r0) (L):=by
 unfold vY at H;refine ke func88 48 rfl λj=>ks<|kN h (#[Z O.aS,Z O.dh,Z O.bQ,aW bz O.ai.length bZ]) 85 λb1 w h=>bS<|G<|?_;obtain⟨o3,H,GU⟩:=FU H;refine λ_ r=>cW (β:=Unit) (λ_ a w=>.inl ()=o3/\∃j,jY 48 (lk [(1,pA b1 0)] j) a/\Fit z (aD (sK b1 O bz bZ::L)) w) ?_ ?_
 ·refine qq r<|aL [U]<|kL h 0<|ko [dm (O.aS<0),dm (O.aS<0)]<|qI H (λc4 H=>?_) λc4 H=>?_
  ·refine cg (dT c4) [7,8,9]<|oJ (dT c4) (vB true)<|bS<|cg (rfl:true=true) [12,13,14]<|ko da<|cg (rfl:true=true) [17,18,19,20,21]<|ko da<|cg (rfl:true=true) [24,25,26]<|bS<|G<|λ_ r=>fW r (b:=true) rfl<|qq r<|gP<|wr<|tr<|λ_ r=>rX (vB false) rfl r<|?_;replace H:=wL H GU;cases H;exact⟨rfl,h.se 1 []⟩
  refine cT (dF c4) [7] [pA b1 0]<|vz (dF c4) h 0<|cT (dF c4) [9] [dm (O.aS>8)]<|oz (dF c4) (dm (O.aS>8))<|ko [dm (O.aS>8)]<|qI H (λc5 H=>?_) λc5 H=>?_
  ·refine cg (dT c5) [12,13,14]<|oJ (dT c5) (vB true)<|bS<|cg (rfl:true=true) [17,18,19,20,21]<|ko da<|cg (rfl:true=true) [24,25,26]<|bS<|G<|λ_ r=>fW r (b:=true) rfl<|qq r<|gP<|wr<|tr<|λ_ r=>rX (vB false) rfl r<|?_;replace H:=wL H GU;cases H;exact⟨rfl,h.se 1 []⟩
  refine cT (dF c5) [12] [pA b1 1]<|vz (dF c5) h 1<|cT (dF c5) [14] [dm (O.dh<1)]<|oz (dF c5) (dm (O.dh<1))<|ko [dm (O.dh<1)]<|qI H (λc6 H=>?_) λc6 H=>?_
  ·refine cg (dT c6) [17,18,19,20,21]<|oJ (dT c6) (vB true)<|bS<|cg (rfl:true=true) [24,25,26]<|bS<|G<|λ_ r=>fW r (b:=true) rfl<|qq r<|gP<|wr<|tr<|λ_ r=>rX (vB false) rfl r<|?_;replace H:=wL H GU;cases H;exact⟨rfl,h.se 1 []⟩
  refine cT (dF c6) [17] [pA b1 1]<|vz (dF c6) h 1<|cT (dF c6) [19] [pA b1 0]<|vz (dF c6) h 0<|cT (dF c6) [21] [dm (O.dh<O.aS)]<|oz (dF c6) (dm (O.dh<O.aS))<|ko [dm (O.dh<O.aS)]<|qI H (λc7 H=>?_) λc7 H=>?_
  ·refine cg (dT c7) [24,25,26]<|oJ (dT c7) (vB true)<|G<|λ_ r=>fW r (b:=true) rfl<|qq r<|gP<|wr<|tr<|λ_ r=>rX (vB false) rfl r<|?_;replace H:=wL H GU;cases H;exact⟨rfl,h.se 1 []⟩
  refine cT (dF c7) [24] [pA b1 1]<|vz (dF c7) h 1<|cT (dF c7) [26] [dm (O.dh>16)]<|oz (dF c7) (dm (O.dh>16))<|G<|dK H (λc8 H=>?_) λc8 H=>?_
  ·refine gP<|wr<|tr<|λ_ r=>rX (vB false) rfl r<|?_;replace H:=wL H GU;cases H;exact⟨rfl,h.se 1 []⟩
  refine fT<|?_;exact λ_ r=>⟨(),fV H,r.fj h⟩
 clear h r;rintro _ a w ⟨rfl,j,r,h⟩;replace H:=FV GU;refine qq r<|aL [U]<|kL h 2<|ko [dm (O.bQ>=0),dm (O.bQ>=0)]<|qI H (λc9 H=>?_) λc9 H=>?_
 ·refine cT (dT c9) [32] [pA b1 2]<|vz (dT c9) h 2<|cT (dT c9) [34] [dm (O.bQ<=8)]<|oJ (dT c9) (dm (O.bQ<=8))<|ko [dm (O.bQ<=8)]<|qI H (λpe H=>?_) λpe H=>?_
  ·refine cT (dT pe) [37] [pA b1 3]<|vz (dT pe) h 3<|cT (dT pe) [39,40] [Z ((O.ai.length:Nat):Int),dm (((O.ai.length:Nat):Int)>=1)]<|oJ (dT pe) (dm (((O.ai.length:Nat):Int)>=1))<|ko [dm (((O.ai.length:Nat):Int)>=1)]<|qI H (λvH H=>?_) λvH H=>?_
   ·refine cT (dT vH) [43] [pA b1 3]<|vz (dT vH) h 3<|cT (dT vH) [45,46] [Z ((O.ai.length:Nat):Int),dm (((O.ai.length:Nat):Int)<=512)]<|oJ (dT vH) (dm (((O.ai.length:Nat):Int)<=512))<|ko [dm (((O.ai.length:Nat):Int)<=512)]<|bY<|?_;cases H;exact fU (h.se 1 [])
   refine cg (dF vH) [43,44,45,46]<|oz (dF vH) (vB false)<|bS<|bY<|?_;cases H;exact fU (h.se 1 [])
  refine cg (dF pe) [37,38,39,40]<|oz (dF pe) (vB false)<|bS<|cg (rfl:false=false) [43,44,45,46]<|ko da<|bY<|?_;cases H;exact fU (h.se 1 [])
 refine cg (dF c9) [32,33,34]<|oz (dF c9) (vB false)<|bS<|cg (rfl:false=false) [37,38,39,40]<|ko da<|cg (rfl:false=false) [43,44,45,46]<|ko da<|bY<|?_;cases H;exact fU (h.se 1 [])
def yy(O:Int)(Y:Int)(p2:aB)(p3:Int):Option (Bool):=
 (if O=0 then some true else(if O=1 then(if Y>=0 then some (decide (Y<p2.dh))else some false)else(if O=2 then(if Y>=0 then some (decide (Y<p2.bQ))else some false)else(if O=3 then(if Y>=0 then some (decide (Y<((p2.ai.length:Nat):Int)))else some false)else(if O=5 then(if Y>=0 then some (decide (Y<16))else some false)else(if O=4 then(if p3<0 then some true else(if Y>=0 then some (decide (Y<p3))else some false))else(if Y>=0 then some (decide (Y<0))else some false)))))))
theorem BA(H:yy O Y p2 p3=some r0)(h:iJ z (L) w)(I5:bI L 5 cU CU p2.ai) :
 nH 147 #[Z O,Z Y,oV #[Z p2.aS,Z p2.dh,Z p2.bQ,aW CU p2.ai.length Fm],Z p3] w z (vB r0) (L):=by
 unfold yy at H;refine ke func147 40 rfl λj=>ks<|kN h (#[Z p2.aS,Z p2.dh,Z p2.bQ,aW CU p2.ai.length Fm]) 85 λb1 w h=>bS<|G<|gP<|wq<|gP<|wb<|aL [vB (O==0),vB (O==0)]<|G<|dK H (λc2 H=>?_) λc2 H=>?_
 ·refine gP<|wr<|br<|tr<|?_;cases H;exact fU (h.se 1 [])
 refine aL [vB (O==1),vB (O==1)]<|G<|dK H (λc3 H=>?_) λc3 H=>?_
 ·refine wl<|bS<|kL h 1<|bS<|kl<|bn<|tn<|aL [U,dm (Y>=0),dm (Y>=0)]<|qI H (λc4 H=>?_) λc4 H=>?_
  ·refine cT (dT c4) [36,37,38] [Z Y,Z p2.dh,dm (Y<p2.dh)]<|oJ (dT c4) (dm (Y<p2.dh))<|ko [dm (Y<p2.dh)]<|bY<|?_;cases H;exact fU (h.se 1 [])
  refine cg (dF c4) [36,37,38]<|oz (dF c4) (vB false)<|bS<|bY<|?_;cases H;exact fU (h.se 1 [])
 refine aL [vB (O==2),vB (O==2)]<|G<|dK H (λc5 H=>?_) λc5 H=>?_
 ·refine wl<|bS<|kL h 2<|bS<|kl<|bn<|tn<|aL [U,dm (Y>=0),dm (Y>=0)]<|qI H (λc6 H=>?_) λc6 H=>?_
  ·refine cT (dT c6) [36,37,38] [Z Y,Z p2.bQ,dm (Y<p2.bQ)]<|oJ (dT c6) (dm (Y<p2.bQ))<|ko [dm (Y<p2.bQ)]<|bY<|?_;cases H;exact fU (h.se 1 [])
  refine cg (dF c6) [36,37,38]<|oz (dF c6) (vB false)<|bS<|bY<|?_;cases H;exact fU (h.se 1 [])
 refine aL [vB (O==3),vB (O==3)]<|G<|dK H (λc7 H=>?_) λc7 H=>?_
 ·refine wl<|bS<|kL h 3<|ko [Z ((p2.ai.length:Nat):Int),Z ((p2.ai.length:Nat):Int)]<|kl<|bn<|tn<|aL [U,dm (Y>=0),dm (Y>=0)]<|qI H (λc8 H=>?_) λc8 H=>?_
  ·refine cT (dT c8) [36,37,38] [Z Y,Z ((p2.ai.length:Nat):Int),dm (Y<((p2.ai.length:Nat):Int))]<|oJ (dT c8) (dm (Y<((p2.ai.length:Nat):Int)))<|ko [dm (Y<((p2.ai.length:Nat):Int))]<|bY<|?_;cases H;exact fU (h.se 1 [])
  refine cg (dF c8) [36,37,38]<|oz (dF c8) (vB false)<|bS<|bY<|?_;cases H;exact fU (h.se 1 [])
 refine aL [vB (O==5),vB (O==5)]<|G<|dK H (λc9 H=>?_) λc9 H=>?_
 ·refine wl<|bS<|kl<|bn<|tn<|aL [U,dm (Y>=0),dm (Y>=0)]<|qI H (λpe H=>?_) λpe H=>?_
  ·refine cT (dT pe) [36,37,38] [Z Y,Z 16,dm (Y<16)]<|oJ (dT pe) (dm (Y<16))<|ko [dm (Y<16)]<|bY<|?_;cases H;exact fU (h.se 1 [])
  refine cg (dF pe) [36,37,38]<|oz (dF pe) (vB false)<|bS<|bY<|?_;cases H;exact fU (h.se 1 [])
 refine aL [vB (O==4),vB (O==4)]<|G<|dK H (λvH H=>?_) λvH H=>?_
 ·refine wq<|aL [U,dm (p3<0)]<|G<|dK H (λEt H=>?_) λEt H=>?_
  ·refine gP<|wr<|tr<|br<|tr<|?_;cases H;exact fU (h.se 1 [])
  refine fT<|wl<|ko da<|kl<|bn<|tn<|aL [U,dm (Y>=0),dm (Y>=0)]<|qI H (λyI H=>?_) λyI H=>?_
  ·refine cT (dT yI) [36,37,38] [Z Y,Z p3,dm (Y<p3)]<|oJ (dT yI) (dm (Y<p3))<|ko [dm (Y<p3)]<|bY<|?_;cases H;exact fU (h.se 1 [])
  refine cg (dF yI) [36,37,38]<|oz (dF yI) (vB false)<|bS<|bY<|?_;cases H;exact fU (h.se 1 [])
 refine wk<|bn<|tn<|aL [U,dm (Y>=0),dm (Y>=0)]<|qI H (λxF H=>?_) λxF H=>?_
 ·refine cT (dT xF) [36,37,38] [Z Y,Z 0,dm (Y<0)]<|oJ (dT xF) (dm (Y<0))<|ko [dm (Y<0)]<|bY<|?_;cases H;exact fU (h.se 1 [])
 refine cg (dF xF) [36,37,38]<|oz (dF xF) (vB false)<|bS<|bY<|?_;cases H;exact fU (h.se 1 [])
def vZ(O:cr)(Y:aB)(p2:List aB):Option (Bool):=
 Ax ((if O.aG<0 then some (.inr false)else(if O.aG>=10 then some (.inr false)else some (.inl ())))) (if bJ O.aG yY.length then Qr (if 0<p2.length then some ()else none) (Ax (dX (yy (J yY O.aG.toNat).a O.A Y ((p2.length:Nat):Int)) (λiS=>(if iS=true then dX (yy (J yY O.aG.toNat).b O.B Y ((p2.length:Nat):Int)) (λCw=>(if Cw=true then dX (yy (J yY O.aG.toNat).c O.C Y ((p2.length:Nat):Int)) (λAl=>(if Al=true then some (.inl ())else some (.inr false)))else some (.inr false)))else some (.inr false)))) (Ax ((if(J yY O.aG.toNat).k=5 then(if O.K<0 then some (.inr false)else(if O.K>=16 then some (.inr false)else some (.inl ())))else some (.inl ()))) (dX ((if O.aG=5 then if 0<p2.length then some true else none else some false)) (λg28=>(if g28=true then if bJ O.B p2.length then(if(J p2 O.B.toNat).aS=0 then some true else(if O.C>=0 then some (decide (O.C<=(wi (Y.dh-(J p2 O.B.toNat).aS))))else some false))else none else some true)))))else none)
end
noncomputable section
variable {z w:World}{L:List bl}
theorem B7(H:vZ O Y p2=some r0)(h:iJ z (L) w)(eR:bI L 5 cU dk Y.ai)(Cu:zb L v5 WR p2)(wu:bI L 5 gJ (some ⟨1,0,none⟩) yY) :
 nH 122 #[gO O,oV #[Z Y.aS,Z Y.dh,Z Y.bQ,aW dk Y.ai.length dy],aW v5 p2.length xG] w z (vB r0) (L):=by
 unfold vZ at H;refine ke func122 96 rfl λj=>ks<|kN h (lP O) 132 λb1 w h=>kN h (#[Z Y.aS,Z Y.dh,Z Y.bQ,aW dk Y.ai.length dy]) 85 λb2 w h=>bS<|G<|?_;obtain⟨o4,H,Pd⟩:=FU H;refine λ_ r=>cW (β:=Unit) (λ_ a w=>.inl ()=o4/\∃j,jY 96 (lk [(2,aW v5 p2.length xG),(3,pA b1 0),(4,pA b2 0)] j) a/\Fit z (aD (wD b1 O::sK b2 Y dk dy::L)) w) ?_ ?_
 ·refine qq r<|aL [U]<|kL (h.pick 1) 0<|ko [dm (O.aG<0),dm (O.aG<0)]<|qI H (λc5 H=>?_) λc5 H=>?_
  ·refine cg (dT c5) [14,15,16]<|oJ (dT c5) (vB true)<|G<|λ_ r=>fW r (b:=true) rfl<|qq r<|gP<|wr<|tr<|λ_ r=>rX (vB false) rfl r<|?_;replace H:=wL H Pd;cases H;exact⟨rfl,h.se 2 []⟩
  refine cT (dF c5) [14] [pA b1 0]<|vz (dF c5) (h.pick 1) 0<|cT (dF c5) [16] [dm (O.aG>=10)]<|oz (dF c5) (dm (O.aG>=10))<|G<|dK H (λc6 H=>?_) λc6 H=>?_
  ·refine gP<|wr<|tr<|λ_ r=>rX (vB false) rfl r<|?_;replace H:=wL H Pd;cases H;exact⟨rfl,h.se 2 []⟩
  refine fT<|?_;exact λ_ r=>⟨(),fV H,r.fj (h.se 2 [1,0])⟩
 clear h r;rintro _ a w ⟨rfl,j,r,h⟩;replace H:=FV Pd;refine qq r<|aL [U]<|kL h 0<|qg H λc7 H=>kp (pA (dJ (some ⟨1,0,none⟩)) (O.aG.toNat*5)) (O1 (xs:=yY) (k:=.i64) (E:=215) rfl aZ aZ aZ aZ rfl c7)<|yw (LD (J yY O.aG.toNat)) (cs:=LC (J yY O.aG.toNat)) ⟨wu.IK c7 (h.dn 2) 0 rfl,wu.IK c7 (h.dn 2) 1 rfl,wu.IK c7 (h.dn 2) 2 rfl,wu.IK c7 (h.dn 2) 3 rfl,wu.IK c7 (h.dn 2) 4 rfl,bR⟩<|?_;refine kN h (#[Z 0,Z 0,Z 0,Z 0,vB false]) 215 λb8 w h=>kA h (UQ b8 (J yY O.aG.toNat)) λw h=>G<|aL [U,Z ((p2.length:Nat):Int),Z ((p2.length:Nat):Int)]<|G<|qd0 H λo10 H hK9=>λ_ r=>cW (β:=Unit) (λ_ a w=>()=o10/\∃j,jY 96 (lk [(2,aW v5 p2.length xG),(3,pA b1 0),(4,pA b2 0),(7,pA b8 0),(8,Z ((p2.length:Nat):Int))] j) a/\Fit z (aD (wD b1 O::sK b2 Y dk dy::UQ b8 (J yY O.aG.toNat)::L)) w) ?_ ?_
 ·refine qq r<|ks<|qg H λvH H=>bS<|kp (vB false) (Xp (n0:=p2.length) (cc:=xG) rfl aZ aZ (E:=85) aZ (Cu.ne vH))<|G<|λ_ r=>jw r (b:=false) rfl<|qq r<|fT<|?_;exact λ_ r=>⟨(),fV H,r.fj (h.se 3 [1,2,0])⟩
 clear h r;rintro _ a w ⟨rfl,j,r,h⟩;replace H:=kk0 hK9;obtain⟨o13,H,Sl⟩:=FU H;refine cW (β:=Unit) (λ_ a w=>.inl ()=o13/\∃j,jY 96 (lk [(2,aW v5 p2.length xG),(3,pA b1 0),(4,pA b2 0),(7,pA b8 0)] j) a/\Fit z (aD (wD b1 O::sK b2 Y dk dy::UQ b8 (J yY O.aG.toNat)::L)) w) ?_ ?_
 ·refine qq r<|aL [U]<|kL (h.pick 2) 0<|bS<|kL h 1<|kM (h.pick 1)<|fP H λiS I6 H=>ko [Z ((p2.length:Nat):Int)]<|eW (BA (CU:=dk) (Fm:=dy) (I5:=(bI.up 3 eR)) I6 h :) λw h=>ko [vB (!iS),vB (!iS)]<|qI H (λvJ H=>?_) λvJ H=>?_
  ·refine cT (nT vJ) [35] [pA b8 1]<|vz (nT vJ) (h.pick 2) 1<|cT (nT vJ) [37] [pA b1 2]<|vz (nT vJ) h 2<|λ_ r=>ldm (nL r (nT vJ)) r (oV #[Z Y.aS,Z Y.dh,Z Y.bQ,aW dk Y.ai.length dy]) (cs:=[Z Y.aS,Z Y.dh,Z Y.bQ,aW dk Y.ai.length dy]) ((h.pick 1).held 0 rfl)<|?_;refine fP H λCw Ew H=>cT (nT vJ) [40] [Z ((p2.length:Nat):Int)]<|xg0 (nT vJ) (BA (CU:=dk) (Fm:=dy) (I5:=(bI.up 3 eR)) Ew h :) λw h=>cT (nT vJ) [42] [vB (!Cw)]<|oz (nT vJ) (vB (!Cw))<|ko [vB (!Cw)]<|qI H (λsj H=>?_) λsj H=>?_
   ·refine cT (nT sj) [45] [pA b8 2]<|vz (nT sj) (h.pick 2) 2<|cT (nT sj) [47] [pA b1 3]<|vz (nT sj) h 3<|λ_ r=>ldm (nL r (nT sj)) r (oV #[Z Y.aS,Z Y.dh,Z Y.bQ,aW dk Y.ai.length dy]) (cs:=[Z Y.aS,Z Y.dh,Z Y.bQ,aW dk Y.ai.length dy]) ((h.pick 1).held 0 rfl)<|?_;refine fP H λAl LM H=>cT (nT sj) [50] [Z ((p2.length:Nat):Int)]<|xg0 (nT sj) (BA (CU:=dk) (Fm:=dy) (I5:=(bI.up 3 eR)) LM h :) λw h=>cT (nT sj) [52] [vB (!Al)]<|oz (nT sj) (vB (!Al))<|G<|FZ H (λF5 H=>?_) λF5 H=>?_
    ·refine fT<|?_;exact λ_ r=>⟨(),fV H,r.fj h⟩
    refine gP<|wr<|tr<|λ_ r=>rX (vB false) rfl r<|?_;replace H:=wL H Sl;cases H;exact⟨rfl,h.se 3 []⟩
   refine cg (nF sj) [45,46,47,48,49,50,51,52]<|oJ (nF sj) (vB true)<|G<|λ_ r=>fW r (b:=true) rfl<|qq r<|gP<|wr<|tr<|λ_ r=>rX (vB false) rfl r<|?_;replace H:=wL H Sl;cases H;exact⟨rfl,h.se 3 []⟩
  refine cg (nF vJ) [35,36,37,38,39,40,41,42]<|oJ (nF vJ) (vB true)<|bS<|cg (rfl:true=true) [45,46,47,48,49,50,51,52]<|bS<|G<|λ_ r=>fW r (b:=true) rfl<|qq r<|gP<|wr<|tr<|λ_ r=>rX (vB false) rfl r<|?_;replace H:=wL H Sl;cases H;exact⟨rfl,h.se 3 []⟩
 clear h r;rintro _ a w ⟨rfl,j,r,h⟩;replace H:=FV Sl;obtain⟨o24,H,J1⟩:=FU H;refine cW (β:=Unit) (λ_ a w=>.inl ()=o24/\∃j,jY 96 (lk [(2,aW v5 p2.length xG),(3,pA b1 0),(4,pA b2 0)] j) a/\Fit z (aD (wD b1 O::sK b2 Y dk dy::L)) w) ?_ ?_
 ·refine qq r<|aL [U]<|kL (h.pick 2) 3<|ko [vB ((J yY O.aG.toNat).k==5),vB ((J yY O.aG.toNat).k==5)]<|qI H (λzP H=>?_) λzP H=>?_
  ·refine cT (beq_iff_eq.mpr zP) [58] [pA b1 4]<|λ_ r=>ld (nL r (beq_iff_eq.mpr zP)) r (Z O.K) (h.cell 4 rfl)<|?_;refine cT (beq_iff_eq.mpr zP) [60,61] [dm (O.K<0),dm (O.K<0)]<|qI H (λDs H=>?_) λDs H=>?_
   ·refine cg (dT Ds) [62,63,64]<|λ_ r=>CK (nL r (beq_iff_eq.mpr zP)) r (vB true) (G8 (b:=(decide (O.K<0))) rfl aZ (dT Ds) aZ)<|?_;refine oJ (beq_iff_eq.mpr zP) (vB true)<|G<|λ_ r=>fW r (b:=true) rfl<|qq r<|gP<|wr<|tr<|λ_ r=>rX (vB false) rfl r<|?_;replace H:=wL H J1;cases H;exact⟨rfl,h.se 3 []⟩
   refine cT (dF Ds) [62] [pA b1 4]<|vz (dF Ds) h 4<|cT (dF Ds) [64] [dm (O.K>=16)]<|λ_ r=>CK (nL r (beq_iff_eq.mpr zP)) r (dm (O.K>=16)) (It (b:=(decide (O.K<0))) rfl aZ (dF Ds) aZ)<|?_;refine oJ (beq_iff_eq.mpr zP) (dm (O.K>=16))<|G<|dK H (λsX H=>?_) λsX H=>?_
   ·refine gP<|wr<|tr<|λ_ r=>rX (vB false) rfl r<|?_;replace H:=wL H J1;cases H;exact⟨rfl,h.se 3 []⟩
   refine fT<|?_;exact λ_ r=>⟨(),fV H,r.fj (h.se 3 [0,1])⟩
  refine cg (bN zP) [58,59,60,61]<|Nz false [62,63,64]<|cg (bN zP) [65]<|oz (bN zP) (vB false)<|G<|λ_ r=>jw r (b:=false) rfl<|qq r<|fT<|?_;exact λ_ r=>⟨(),fV H,r.fj (h.se 3 [0,1])⟩
 clear h r;rintro _ a w ⟨rfl,j,r,h⟩;replace H:=FV J1;refine qq r<|wq<|EM H λo30 H ad1=>λ_ r=>cW (β:=Unit) (λ_ a w=>∃g28:Bool,g28=o30/\∃j,jY 96 (lk [(2,aW v5 p2.length xG),(3,pA b1 0),(4,pA b2 0),(73,vB g28)] j) a/\Fit z (aD (wD b1 O::sK b2 Y dk dy::L)) w) ?_ ?_
 ·refine qq r<|wl<|bS<|kL h 0<|ko [vB (O.aG==5),vB (O.aG==5)]<|qI H (λxV H=>?_) λxV H=>?_
  ·refine qg H λEP H=>cT (beq_iff_eq.mpr xV) [71] [aW v5 p2.length xG]<|λ_ r=>CK (nL r (beq_iff_eq.mpr xV)) r (vB true) (Un (n0:=p2.length) (cc:=xG) rfl aZ aZ (E:=85) aZ (Cu.ne EP))<|?_;refine oJ (beq_iff_eq.mpr xV) (vB true)<|G<|?_;exact λ_ r=>⟨(),true,fV H,r.fj h⟩
  refine cg (bN xV) [71,72]<|oz (bN xV) (vB false)<|G<|?_;exact λ_ r=>⟨(),false,fV H,r.fj h⟩
 clear h r;rintro _ a w ⟨g28,rfl,j,r,h⟩;replace H:=EK ad1;refine qq r<|EN H (λCf H=>?_) λCf H=>?_
 ·refine aL da<|kL h 2<|qg H λFh H=>kp (pA (dJ v5) (jf v5+O.B.toNat*4)) (Dz 85 xG rfl rfl Cu Fh)<|bS<|zz (Z (J p2 O.B.toNat).aS) (Cu.cell Fh (h.dn 2) 0 rfl)<|?_;refine bS<|G<|aL [U,vB ((J p2 O.B.toNat).aS==0),vB ((J p2 O.B.toNat).aS==0)]<|qI H (λI7 H=>?_) λI7 H=>?_
  ·refine cg (beq_iff_eq.mpr I7) [83,84,85,86]<|Nz true [87,88,89,90,91,92,93]<|cg (beq_iff_eq.mpr I7) [94]<|oJ (beq_iff_eq.mpr I7) (vB true)<|bS<|bY<|tr<|?_;cases H;exact fU (h.se 2 [])
  refine cT (bN I7) [83] [pA b1 3]<|vz (bN I7) h 3<|cT (bN I7) [85,86] [dm (O.C>=0),dm (O.C>=0)]<|qI H (λMM H=>?_) λMM H=>?_
  ·refine cT (dT MM) [87] [pA b1 3]<|vz (dT MM) h 3<|cT (dT MM) [89] [pA b2 1]<|vz (dT MM) (h.pick 1) 1<|cT (dT MM) [91,92,93] [Z (J p2 O.B.toNat).aS,Z (wi (Y.dh-(J p2 O.B.toNat).aS)),dm (O.C<=(wi (Y.dh-(J p2 O.B.toNat).aS)))]<|λ_ r=>CK (nL r (bN I7)) r (dm (O.C<=(wi (Y.dh-(J p2 O.B.toNat).aS)))) (G8 (b:=(decide (O.C>=0))) rfl aZ (dT MM) aZ)<|?_;refine oz (bN I7) (dm (O.C<=(wi (Y.dh-(J p2 O.B.toNat).aS))))<|ko [dm (O.C<=(wi (Y.dh-(J p2 O.B.toNat).aS)))]<|bY<|tr<|?_;cases H;exact fU (h.se 2 [])
  refine cg (dF MM) [87,88,89,90,91,92,93]<|λ_ r=>CK (nL r (bN I7)) r (vB false) (It (b:=(decide (O.C>=0))) rfl aZ (dF MM) aZ)<|?_;refine oz (bN I7) (vB false)<|bS<|bY<|tr<|?_;cases H;exact fU (h.se 2 [])
 refine fT<|gP<|wr<|?_;cases H;exact fU (h.se 2 [])
def xj(O:aB):Option (Bool):=
 if bJ (wi (((O.ai.length:Nat):Int)-1)) O.ai.length then(if(J O.ai (wi (((O.ai.length:Nat):Int)-1)).toNat).aG=3 then some true else some ((J O.ai (wi (((O.ai.length:Nat):Int)-1)).toNat).aG==9))else none
theorem CV(H:xj O=some r0)(h:iJ z (L) w)(cE:bI L 5 cU bz O.ai) :
 nH 123 #[oV #[Z O.aS,Z O.dh,Z O.bQ,aW bz O.ai.length bZ]] w z (vB r0) (L):=by
 unfold xj at H;refine ke func123 19 rfl λj=>ks<|kN h (#[Z O.aS,Z O.dh,Z O.bQ,aW bz O.ai.length bZ]) 85 λb1 w h=>bS<|G<|aL [U]<|kL h 3<|bS<|kL h 3<|qg H λc2 H=>ko [Z ((O.ai.length:Nat):Int),Z (wi (((O.ai.length:Nat):Int)-1))]<|kj 132 bZ cE c2<|ko [pA (dJ bz) (jf bz+(wi (((O.ai.length:Nat):Int)-1)).toNat*5)]<|zz (Z (J O.ai (wi (((O.ai.length:Nat):Int)-1)).toNat).aG) (cE.cell c2 (h.dn 1) 0 rfl)<|?_;refine ko [Z (J O.ai (wi (((O.ai.length:Nat):Int)-1)).toNat).aG]<|G<|aL [Z (J O.ai (wi (((O.ai.length:Nat):Int)-1)).toNat).aG,vB ((J O.ai (wi (((O.ai.length:Nat):Int)-1)).toNat).aG==3),vB ((J O.ai (wi (((O.ai.length:Nat):Int)-1)).toNat).aG==3)]<|qI H (λc3 H=>?_) λc3 H=>?_
 ·refine cg (beq_iff_eq.mpr c3) [16,17]<|oJ (beq_iff_eq.mpr c3) (vB true)<|bS<|bY<|?_;cases H;exact fU (h.se 1 [])
 refine cT (bN c3) [16,17] [Z (J O.ai (wi (((O.ai.length:Nat):Int)-1)).toNat).aG,vB ((J O.ai (wi (((O.ai.length:Nat):Int)-1)).toNat).aG==9)]<|oz (bN c3) (vB ((J O.ai (wi (((O.ai.length:Nat):Int)-1)).toNat).aG==9))<|ko [vB ((J O.ai (wi (((O.ai.length:Nat):Int)-1)).toNat).aG==9)]<|bY<|?_;cases H;exact fU (h.se 1 [])
def gy(K:Nat)(O:Int)(Y:aB)(p2:List aB):Nat->Int->Option ((Unit)⊕((Unit)⊕nV))
 | 0,_=>none
 | k1+1,g4=>(if g4<((Y.ai.length:Nat):Int)then if bJ g4 Y.ai.length then dX (vZ (J Y.ai g4.toNat) Y p2) (λr8=>(if r8=true then(gy K O Y p2 k1 (wi (g4+1)))else some (.inr (.inr (⟨52,O,g4⟩:nV)))))else none else some (.inl ()))
def oC(K:Nat)(O:Int)(Y:aB)(p2:List aB):Option ((Unit)⊕nV):=
 Ax ((gy K O Y p2 K 0)) (dX (xj Y) (λvC=>(if vC=true then some (.inl ())else some (.inr (⟨53,O,wi (((Y.ai.length:Nat):Int)-1)⟩:nV)))))
abbrev Zo:List Value:=[U,U,U,U,U]
theorem Ch{K:Nat}{O:Int}{Y:aB}{p2:List aB}{dk v5:fB}{dy xG:Nat}{WR:Nat->Option Addr×Nat}(H:oC K O Y p2=some (.inl ()))(h:iJ z (L) w)(eR:bI L 5 cU dk Y.ai)(Cu:zb L v5 WR p2)(wu:bI L 5 gJ (some ⟨1,0,none⟩) yY) :
 nH 89 #[Z O,oV #[Z Y.aS,Z Y.dh,Z Y.bQ,aW dk Y.ai.length dy],aW v5 p2.length xG] w z (.tuple #[]) (L):=by
 unfold oC at H;refine ke func89 38 rfl λj=>ks<|kN h (#[Z Y.aS,Z Y.dh,Z Y.bQ,aW dk Y.ai.length dy]) 85 λb1 w h=>G<|?_;obtain⟨o3,H,GU⟩:=FU H;refine λ_ r=>cW (β:=Unit) (λ_ a w=>.inl ()=o3/\∃j,jY 38 (lk [(0,Z O),(4,pA b1 0)] j) a/\Fit z (aD (sK b1 Y dk dy::L)) w) ?_ ?_
 ·refine qq r<|aL [U]<|kL h 3<|ko [Z ((Y.ai.length:Nat):Int),U]<|G<|wb<|λ_ r=>dr (β:=Nat) id (λm a w=>∃g4:Int,(gy K O Y p2 m g4)=some o3/\∃j,jY 38 (lk [(0,Z O),(2,aW v5 p2.length xG),(4,pA b1 0),(9,aW dk Y.ai.length dy),(10,Z ((Y.ai.length:Nat):Int)),(11,Z g4)] j) a/\Fit z (aD (sK b1 Y dk dy::L)) w) K ⟨0,H,r.fj h⟩<|?_;clear h r H;rintro k1 a w ⟨g4,H,j,r,h⟩;cases k1 with
  | zero=>exact absurd H (by simp[gy])
  | succ k1 =>
   rw[gy]at H;refine qq r<|aL [dm (g4<((Y.ai.length:Nat):Int))]<|G<|wq<|dK H (λc5 H=>?_) λc5 H=>?_
   ·refine fT<|wq<|wb<|ks<|qg H λc6 H=>bS<|kj 132 dy eR c6<|yw (gO (J Y.ai g4.toNat)) (cs:=gq (J Y.ai g4.toNat)) ⟨eR.cell c6 (h.dn 1) 0 rfl,eR.cell c6 (h.dn 1) 1 rfl,eR.cell c6 (h.dn 1) 2 rfl,eR.cell c6 (h.dn 1) 3 rfl,eR.cell c6 (h.dn 1) 4 rfl,bR⟩<|?_;refine kN h (DA) 132 λb7 w h=>bS<|kA h (wD b7 (J Y.ai g4.toNat)) λw h=>G<|ks<|kM h<|kM (h.pick 1)<|fP H λr8 e9 H=>bS<|eW (B7 (v5:=v5) (xG:=xG) (Cu:=(yf.up 2 Cu)) (dk:=dk) (dy:=dy) (eR:=(bI.up 2 eR)) (wu:=bI.up 2 wu) (WR:=WR) e9 h :) λw h=>ko [vB (!r8)]<|G<|FZ H (λpe H=>?_) λpe H=>?_
    ·refine wk<|bn<|tn<|wl<|ko [Z (wi (g4+1)),Z (wi (g4+1))]<|G<|?_;exact λ_ r=>⟨_,⟨(wi (g4+1)),H,r.fj (h.se 2 [1])⟩,ie _⟩
    refine wl<|ko Zo<|λ_ r=>FY (wn rfl) r rfl (T:=171) (u:=oV #[Z 52,Z O,Z g4]) aZ<|ve<|oS<|oS<|ve<|oS<|Dq r<|?_;replace H:=wL H GU;cases H
   refine wx<|te<|te<|bh<|tn<|?_;exact λ_ r=>⟨(),fV H,r.fj h⟩
 clear h r;rintro _ a w ⟨rfl,j,r,h⟩;replace H:=FV GU;refine qq r<|ks<|kM h<|fP H λvC Fi H=>eW (CV (bz:=dk) (bZ:=dy) (cE:=(bI.up 1 eR)) Fi h :) λw h=>ko [vB (!vC)]<|G<|FZ H (λyI H=>?_) λyI H=>?_
 ·refine wk<|?_;cases H;exact IX (h.se 1 [])
 refine wl<|ko da<|kL h 3<|ko [Z ((Y.ai.length:Nat):Int),Z (wi (((Y.ai.length:Nat):Int)-1)),oV #[Z 53,Z O,Z (wi (((Y.ai.length:Nat):Int)-1))],oV #[Z 53,Z O,Z (wi (((Y.ai.length:Nat):Int)-1))],if_ 171 (oV #[Z 53,Z O,Z (wi (((Y.ai.length:Nat):Int)-1))])]<|λ_ r=>FY (wn rfl) r rfl (T:=171) (u:=oV #[Z 53,Z O,Z (wi (((Y.ai.length:Nat):Int)-1))]) aZ<|Dq r<|?_;cases H
theorem Ci{K:Nat}{O:Int}{Y:aB}{p2:List aB}{dk v5:fB}{dy xG:Nat}{WR:Nat->Option Addr×Nat}{rP:nV}(H:oC K O Y p2=some (.inr rP))(h:iJ z (L) w)(eR:bI L 5 cU dk Y.ai)(Cu:zb L v5 WR p2)(wu:bI L 5 gJ (some ⟨1,0,none⟩) yY) :
 Calls Tryz.prog 89 #[Z O,oV #[Z Y.aS,Z Y.dh,Z Y.bQ,aW dk Y.ai.length dy],aW v5 p2.length xG] w λe w=>e=.panicked [{v:=if_ 171 (B6 rP),recovered:=false}]/\Fit z (aD (L)) w:=by
 unfold oC at H;refine ke func89 38 rfl λj=>ks<|kN h (#[Z Y.aS,Z Y.dh,Z Y.bQ,aW dk Y.ai.length dy]) 85 λb1 w h=>G<|?_;obtain⟨o3,H,GU⟩:=FU H;refine λ_ r=>cW (β:=Unit) (λ_ a w=>.inl ()=o3/\∃j,jY 38 (lk [(0,Z O),(4,pA b1 0)] j) a/\Fit z (aD (sK b1 Y dk dy::L)) w) ?_ ?_
 ·refine qq r<|aL [U]<|kL h 3<|ko [Z ((Y.ai.length:Nat):Int),U]<|G<|wb<|λ_ r=>dr (β:=Nat) id (λm a w=>∃g4:Int,(gy K O Y p2 m g4)=some o3/\∃j,jY 38 (lk [(0,Z O),(2,aW v5 p2.length xG),(4,pA b1 0),(9,aW dk Y.ai.length dy),(10,Z ((Y.ai.length:Nat):Int)),(11,Z g4)] j) a/\Fit z (aD (sK b1 Y dk dy::L)) w) K ⟨0,H,r.fj h⟩<|?_;clear h r H;rintro k1 a w ⟨g4,H,j,r,h⟩;cases k1 with
  | zero=>exact absurd H (by simp[gy])
  | succ k1 =>
   rw[gy]at H;refine qq r<|aL [dm (g4<((Y.ai.length:Nat):Int))]<|G<|wq<|dK H (λc5 H=>?_) λc5 H=>?_
   ·refine fT<|wq<|wb<|ks<|qg H λc6 H=>bS<|kj 132 dy eR c6<|yw (gO (J Y.ai g4.toNat)) (cs:=gq (J Y.ai g4.toNat)) ⟨eR.cell c6 (h.dn 1) 0 rfl,eR.cell c6 (h.dn 1) 1 rfl,eR.cell c6 (h.dn 1) 2 rfl,eR.cell c6 (h.dn 1) 3 rfl,eR.cell c6 (h.dn 1) 4 rfl,bR⟩<|?_;refine kN h (DA) 132 λb7 w h=>bS<|kA h (wD b7 (J Y.ai g4.toNat)) λw h=>G<|ks<|kM h<|kM (h.pick 1)<|fP H λr8 e9 H=>bS<|eW (B7 (v5:=v5) (xG:=xG) (Cu:=(yf.up 2 Cu)) (dk:=dk) (dy:=dy) (eR:=(bI.up 2 eR)) (wu:=bI.up 2 wu) (WR:=WR) e9 h :) λw h=>ko [vB (!r8)]<|G<|FZ H (λpe H=>?_) λpe H=>?_
    ·refine wk<|bn<|tn<|wl<|ko [Z (wi (g4+1)),Z (wi (g4+1))]<|G<|?_;exact λ_ r=>⟨_,⟨(wi (g4+1)),H,r.fj (h.se 2 [1])⟩,ie _⟩
    refine wl<|ko Zo<|λ_ r=>FY (wn rfl) r rfl (T:=171) (u:=oV #[Z 52,Z O,Z g4]) aZ<|ve<|oS<|oS<|ve<|oS<|Dq r<|?_;replace H:=wL H GU;replace H:=ejR H;subst H;exact⟨rfl,h.se 2 []⟩
   refine wx<|te<|te<|bh<|tn<|?_;exact λ_ r=>⟨(),fV H,r.fj h⟩
 clear h r;rintro _ a w ⟨rfl,j,r,h⟩;replace H:=FV GU;refine qq r<|ks<|kM h<|fP H λvC Fi H=>eW (CV (bz:=dk) (bZ:=dy) (cE:=(bI.up 1 eR)) Fi h :) λw h=>ko [vB (!vC)]<|G<|FZ H (λyI H=>?_) λyI H=>?_
 ·refine wk<|λ_ r=>qO rfl r<|?_;cases H
 refine wl<|ko da<|kL h 3<|ko [Z ((Y.ai.length:Nat):Int),Z (wi (((Y.ai.length:Nat):Int)-1)),oV #[Z 53,Z O,Z (wi (((Y.ai.length:Nat):Int)-1))],oV #[Z 53,Z O,Z (wi (((Y.ai.length:Nat):Int)-1))],if_ 171 (oV #[Z 53,Z O,Z (wi (((Y.ai.length:Nat):Int)-1))])]<|λ_ r=>FY (wn rfl) r rfl (T:=171) (u:=oV #[Z 53,Z O,Z (wi (((Y.ai.length:Nat):Int)-1))]) aZ<|Dq r<|?_;replace H:=ejR H;subst H;exact⟨rfl,h.se 1 []⟩
def wU(O:aV):Option (Bool):=
 some false
theorem F9(H:wU O=some r0)(h:iJ z (L) w) :
 nH 149 #[xK O] w z (vB r0) (L):=by
 unfold wU at H;refine ke func149 3 rfl λj=>ks<|kN h (Hg O) 221 λb1 w h=>bS<|G<|gP<|wr<|?_;cases H;exact fU (h.se 1 [])
def xk(O:cr)(Y:Int)(p2:Int):Option (Int):=
 (if O.aG=5 then(if O.A=Y then some 2 else(if O.aG=6 then(if p2=2 then some 4 else some p2)else some p2))else(if O.aG=6 then(if p2=2 then some 4 else some p2)else some p2))
theorem I8(H:xk O Y p2=some r0)(h:iJ z (L) w) :
 nH 170 #[gO O,Z Y,Z p2] w z (Z r0) (L):=by
 unfold xk at H;refine ke func170 26 rfl λj=>ks<|kN h (lP O) 132 λb1 w h=>bS<|G<|wq<|wb<|aL [U]<|kL h 0<|ko [vB (O.aG==5),vB (O.aG==5)]<|qI H (λc2 H=>?_) λc2 H=>?_
 ·refine cT (beq_iff_eq.mpr c2) [12] [pA b1 1]<|λ_ r=>ld (nL r (beq_iff_eq.mpr c2)) r (Z O.A) (h.cell 1 rfl)<|?_;refine cT (beq_iff_eq.mpr c2) [14,15] [Z Y,vB (O.A==Y)]<|oJ (beq_iff_eq.mpr c2) (vB (O.A==Y))<|ko [vB (O.A==Y)]<|G<|dK H (λc3 H=>?_) λc3 H=>?_
  ·refine gP<|wr<|br<|tr<|?_;cases H;exact fU (h.se 1 [])
  refine aL [U]<|kL h 0<|ko [vB (O.aG==6),vB (O.aG==6)]<|qI H (λc4 H=>?_) λc4 H=>?_
  ·refine cT (beq_iff_eq.mpr c4) [22,23] [Z p2,vB (p2==2)]<|oJ (beq_iff_eq.mpr c4) (vB (p2==2))<|ko [vB (p2==2)]<|G<|dK H (λc5 H=>?_) λc5 H=>?_
   ·refine gP<|wr<|br<|tr<|?_;cases H;exact fU (h.se 1 [])
   refine wk<|bn<|tn<|aL da<|bY<|?_;cases H;exact fU (h.se 1 [])
  refine cg (bN c4) [22,23]<|oz (bN c4) (vB false)<|bS<|G<|λ_ r=>jw r (b:=false) rfl<|qq r<|wk<|bn<|tn<|aL da<|bY<|?_;cases H;exact fU (h.se 1 [])
 refine cg (bN c2) [12,13,14,15]<|oz (bN c2) (vB false)<|bS<|G<|λ_ r=>jw r (b:=false) rfl<|qq r<|aL [U]<|kL h 0<|ko [vB (O.aG==6),vB (O.aG==6)]<|qI H (λc6 H=>?_) λc6 H=>?_
 ·refine cT (beq_iff_eq.mpr c6) [22,23] [Z p2,vB (p2==2)]<|oJ (beq_iff_eq.mpr c6) (vB (p2==2))<|ko [vB (p2==2)]<|G<|dK H (λc7 H=>?_) λc7 H=>?_
  ·refine gP<|wr<|br<|tr<|?_;cases H;exact fU (h.se 1 [])
  refine wk<|bn<|tn<|aL da<|bY<|?_;cases H;exact fU (h.se 1 [])
 refine cg (bN c6) [22,23]<|oz (bN c6) (vB false)<|bS<|G<|λ_ r=>jw r (b:=false) rfl<|qq r<|wk<|bn<|tn<|aL da<|bY<|?_;cases H;exact fU (h.se 1 [])
def xl(O:aB)(Y:Int):Option ((List Int)):=
 if bJ Y O.ai.length then dX (if bJ (J O.ai Y.toNat).aG yY.length then(if(J yY (J O.ai Y.toNat).aG.toNat).next=true then(if(wi (Y+1))<((O.ai.length:Nat):Int)then if(([]:List Int).length+1)*8<=140737488355328 then some (([]:List Int)++[wi (Y+1)])else none else some ([]:List Int))else some ([]:List Int))else none) (λl6=>(if(J O.ai Y.toNat).aG=3 then if(l6.length+1)*8<=140737488355328 then some (l6++[(J O.ai Y.toNat).A])else none else(if(J O.ai Y.toNat).aG=4 then if(l6.length+1)*8<=140737488355328 then some (l6++[(J O.ai Y.toNat).B])else none else some l6)))else none
theorem I9(H:xl O Y=some r0)(h:iJ z (L) w)(cE:bI L 5 cU bz O.ai)(wu:bI L 5 gJ (some ⟨1,0,none⟩) yY) :
 Calls Tryz.prog 171 #[oV #[Z O.aS,Z O.dh,Z O.bQ,aW bz O.ai.length bZ],Z Y] w λe w=>∃y1 y2,e=.returned (aW y1 r0.length y2)/\Fit z (aD (zu y1 y2 r0::L)) w:=by
 unfold xl at H;refine ke func171 47 rfl λj=>ks<|kN h (#[Z O.aS,Z O.dh,Z O.bQ,aW bz O.ai.length bZ]) 85 λb1 w h=>bS<|G<|aL [U]<|kL h 3<|qg H λc2 H=>bS<|kj 132 bZ cE c2<|yw (gO (J O.ai Y.toNat)) (cs:=gq (J O.ai Y.toNat)) ⟨cE.cell c2 (h.dn 1) 0 rfl,cE.cell c2 (h.dn 1) 1 rfl,cE.cell c2 (h.dn 1) 2 rfl,cE.cell c2 (h.dn 1) 3 rfl,cE.cell c2 (h.dn 1) 4 rfl,bR⟩<|?_;refine kN h (DA) 132 λb3 w h=>kA h (wD b3 (J O.ai Y.toNat)) λw h=>G<|gP<|EM H λo8 H LL=>λ_ r=>cW (β:=Unit) (λ_ a w=>∃Hs:fB,∃Ht:Nat,∃l6:List Int,l6=o8/\∃j,jY 47 (lk [(5,pA b3 0),(6,aW Hs l6.length Ht)] j) a/\Fit z (aD (wD b3 (J O.ai Y.toNat)::zu Hs Ht l6::L)) w) ?_ ?_
 ·refine qq r<|aL [U]<|kL h 0<|qg H λc9 H=>kp (pA (dJ (some ⟨1,0,none⟩)) ((J O.ai Y.toNat).aG.toNat*5)) (O1 (xs:=yY) (k:=.i64) (E:=215) rfl aZ aZ aZ aZ rfl c9)<|bS<|zz (vB (J yY (J O.ai Y.toNat).aG.toNat).next) (wu.IK c9 (h.dn 2) 4 rfl)<|?_;refine bS<|qI H (λpe H=>?_) λpe H=>?_
  ·refine cT (pe) [18,19,20] [Z Y,Z (wi (Y+1)),pA b1 3]<|λ_ r=>ld (nL r (pe)) r (aW bz O.ai.length bZ) ((h.pick 1).cell 3 rfl)<|?_;refine cT (pe) [22,23] [Z ((O.ai.length:Nat):Int),dm ((wi (Y+1))<((O.ai.length:Nat):Int))]<|oJ (pe) (dm ((wi (Y+1))<((O.ai.length:Nat):Int)))<|G<|dK H (λvH H=>?_) λvH H=>?_
   ·refine wl<|ko [U,U,Z (wi (Y+1))]<|kV h (#[Z (wi (Y+1))]) 3 λuY w h=>?_;replace h:=h.fC (e:=3) (sz:=1) (enc:=aK);refine qg H λpT H=>λ_ r=>jU (n0:=0) (c:=1) (bytes:=8) (wn rfl) rfl rfl r rfl aZ aZ aJ (E:=3) (xs:=([]:List Int)) aZ aZ h (news:=[wi (Y+1)]) (m:=1) rfl ((h.pick 1).news rfl) pT rfl λum uX w _ h r=>qq r<|ko [aW um (([]:List Int)++[wi (Y+1)]).length uX]<|G<|?_;exact λ_ r=>⟨(),um,uX,(([]:List Int)++[wi (Y+1)]),fV H,r.fj (h.se 4 [2,0])⟩
   refine fT<|?_;replace h:=h.fC (e:=3) (sz:=1) (enc:=aK);exact λ_ r=>⟨(),none,0,([]:List Int),fV H,r.fj (h.se 3 [1,0])⟩
  refine cg (bF pe) [18,19,20,21,22,23]<|oz (bF pe) (vB false)<|G<|λ_ r=>jw r (b:=false) rfl<|qq r<|fT<|?_;replace h:=h.fC (e:=3) (sz:=1) (enc:=aK);exact λ_ r=>⟨(),none,0,([]:List Int),fV H,r.fj (h.se 3 [1,0])⟩
 clear h r;rintro _ a w ⟨Hs,Ht,l6,rfl,j,r,h⟩;replace H:=EK LL;refine qq r<|wq<|aL [U]<|kL h 0<|G<|wb<|aL [vB ((J O.ai Y.toNat).aG==3),vB ((J O.ai Y.toNat).aG==3)]<|G<|dK H (λvJ H=>?_) λvJ H=>?_
 ·refine wl<|ko da<|kL h 1<|kV h (#[Z (J O.ai Y.toNat).A]) 3 λb17 w h=>qh h.m2 λh=>qg H λlT H=>λ_ r=>jU (n0:=l6.length) (c:=1) (bytes:=8) (wn rfl) rfl rfl r rfl aZ aZ aJ (E:=3) (xs:=l6) aZ aZ h (news:=[(J O.ai Y.toNat).A]) (m:=1) rfl ((h.pick 1).news rfl) lT rfl λGa Gb w _ h r=>qq r<|bS<|kl<|bn<|tn<|aL da<|bY<|?_;cases H;exact xy2 Ga Gb (h.se 3 [0])
 refine aL [vB ((J O.ai Y.toNat).aG==4),vB ((J O.ai Y.toNat).aG==4)]<|G<|dK H (λsL H=>?_) λsL H=>?_
 ·refine wl<|ko da<|kL h 2<|kV h (#[Z (J O.ai Y.toNat).B]) 3 λzS w h=>qh h.m2 λh=>qg H λzP H=>λ_ r=>jU (n0:=l6.length) (c:=1) (bytes:=8) (wn rfl) rfl rfl r rfl aZ aZ aJ (E:=3) (xs:=l6) aZ aZ h (news:=[(J O.ai Y.toNat).B]) (m:=1) rfl ((h.pick 1).news rfl) zP rfl λad2 ad3 w _ h r=>qq r<|bS<|kl<|bn<|tn<|aL da<|bY<|?_;cases H;exact xy2 ad2 ad3 (h.se 3 [0])
 refine wk<|bn<|tn<|aL da<|bY<|?_;cases H;exact xy2 Hs Ht (h.se 2 [1])
def jH(K:Nat)(l8:List aV)(B8:Int)(rY:List Int):Nat->(List (aV×aV))->(List aV)->Int->Option ((List (aV×aV))×(List aV))
 | 0,_,_,_=>none
 | k2+1,Pf,Pg,oW=>(if oW<((rY.length:Nat):Int)then if bJ oW rY.length then(if(za Pf (⟨(J rY oW.toNat),B8⟩:aV)).isSome=true then(jH K l8 B8 rY k2 Pf Pg (wi (oW+1)))else if za Pf (⟨(J rY oW.toNat),B8⟩:aV)=none then if(Pg.length+1)*16<=140737488355328 then(jH K l8 B8 rY k2 (Pf++[((⟨(J rY oW.toNat),B8⟩:aV),J l8 0)]) (Pg++[(⟨(J rY oW.toNat),B8⟩:aV)]) (wi (oW+1)))else none else none)else none else some (Pf,Pg))
def lz(K:Nat)(O:aB)(Y:Int):Nat->(List (aV×aV))->(List aV)->Option ((List (aV×aV)))
 | 0,_,_=>none
 | k1+1,l5,l8=>(if((l8.length:Nat):Int)>0 then if bJ (0:Int) l8.length then if 0<=(1:Int)/\(1:Int)<=((l8.length:Nat):Int)then if 0<l8.length then dX (wU (J l8 0)) (λCw=>(if Cw=true then some l5 else if bJ (J l8 0).J O.ai.length then dX (xk (J O.ai (J l8 0).J.toNat) Y (J l8 0).state) (λB8=>dX (xl O (J l8 0).J) (λrY=>uE ((jH K l8 B8 rY K l5 (l8.drop 1) 0)) (λQH Hl=>(lz K O Y k1 QH Hl))))else none))else none else none else none else some l5)
def sk(K:Nat)(O:aB)(Y:Int):Option ((List (aV×aV))):=
 (lz K O Y K (([]:List (aV×aV))++[((⟨0,1⟩:aV),(⟨-1,0⟩:aV))]) ([(⟨0,1⟩:aV)]))
abbrev uo:aV:=⟨0,1⟩
abbrev Eb:aV:=⟨-1,0⟩
abbrev zT:aV:=⟨0,0⟩
theorem DE(H:sk K O Y=some r0)(h:iJ z (L) w)(cE:bI L 5 cU bz O.ai)(wu:bI L 5 gJ (some ⟨1,0,none⟩) yY) :
 Calls Tryz.prog 148 #[oV #[Z O.aS,Z O.dh,Z O.bQ,aW bz O.ai.length bZ],Z Y,.func (.func 149) #[] #[]] w λe w=>∃Zm,e=.returned (.map (some Zm))/\Fit z (aD (mapOf dO dO Zm r0::L)) w:=by
 unfold sk at H;refine ke func148 73 rfl λj=>ks<|kN h (#[Z O.aS,Z O.dh,Z O.bQ,aW bz O.ai.length bZ]) 85 λb1 w h=>bS<|G<|λ_ r=>wp_scope_straight<|qq r<|aL [U]<|kN h (#[Z 0,Z 0]) 221 λb2 w h=>kA h (fS b2 #[Z 0,Z 1] 221) λw h=>G<|ks<|λ_ r=>Uy (wn rfl) rfl rfl r rfl dO dO h λb3 w _ h r=>qq r<|kM (h.pick 1)<|bS<|λ_ r=>Uz (t:=218) (et:=221) (wn rfl) rfl r (Or.inr rfl) aZ uo Eb aZ aZ aZ LF rfl h λw h=>qq r<|ko da<|G<|ks<|kM (h.pick 1)<|kV h (#[Z 0,Z 1]) 221 λb4 w h=>?_;replace h:=Fit.Dm (n:=1) (l:=[uo]) (by rfl) (by rfl) oT gB h;refine bS<|G<|wq<|λ_ r=>wp_label<|qq r<|tn<|wq<|wb<|qh h.QB λh=>?_;have hn8:1=([uo]).length:=h.UF;replace h:=Fit.II hn8 (λq_=>En 221 2 dO (aW (some ⟨b4,0,none⟩) q_ 1) ([uo])) h;intro _ r;replace r:=r.re 9 (nR (λq_=>Value.slice (some ⟨b4,0,none⟩) q_ 1) hn8);refine dr (β:=Nat) id (λm a w=>∃FH:fB,∃cc7:Nat,∃l5:List (aV×aV),∃l8:List aV,(lz K O Y m l5 l8)=some r0/\∃j,jY 73 (lk [(1,Z Y),(2,.func (.func 149) #[] #[]),(3,pA b1 0),(8,.map (some b3)),(9,aW FH l8.length cc7)] j) a/\Fit z (aD (sK b1 O bz bZ::mapOf dO dO b3 l5::En 221 2 dO (aW FH l8.length cc7) l8::L)) w) K ⟨(some ⟨b4,0,none⟩),1,(([]:List (aV×aV))++[(uo,Eb)]),([uo]),H,r.fj (h.se 4 [3,1,0])⟩<|?_;clear h r H;rintro k1 a w ⟨FH,cc7,l5,l8,H,j,r,h⟩;cases k1 with
 | zero=>exact absurd H (by simp[lz])
 | succ k1 =>
  rw[lz]at H;refine qq r<|wq<|aL [U,Z ((l8.length:Nat):Int),dm (((l8.length:Nat):Int)>0)]<|G<|dK H (λpe H=>?_) λpe H=>?_
  ·refine fT<|wb<|ks<|qg H λvH H=>bS<|kp (pA (dJ FH) (jf FH+0*2)) (adV (i:=(0:Int)) (k:=.i64) (E:=221) rfl aZ aZ aZ aZ (h.pick 2) vH)<|yw (xK (J l8 0)) (cs:=Hf (J l8 0)) ⟨(h.pick 2).NB oT (f:=0) (bj vH) rfl,(h.pick 2).NB oT (f:=1) (bj vH) rfl,bR⟩<|?_;refine kN h (#[Z 0,Z 0]) 221 λuY w h=>kA h (QC uY (J l8 0)) λw h=>G<|ks<|qg H λyI H=>qg H λxF H=>bS<|qh h.m3 λh=>λ_ r=>XC (k:=.i64) (wn rfl) rfl rfl r rfl aZ aZ (E:=221) aZ aZ oT h yI xF λad4 ad5 a h r =>qq r<|bS<|G<|wq<|aL [U]<|kM (h.pick 1)<|fP H λCw Ew H=>eW (F9 Ew h :) λw h=>G<|EN H (λsj H=>?_) λsj H=>?_
   ·refine wx<|te<|λ_ r=>Di gB<|qq r<|te<|bh<|tn<|aL da<|bY<|λ_ r=>Uw<|qq r<|?_;cases H;exact xy1 b3 (h.se 4 [3])
   refine fT<|wq<|qg H λlT H=>fP H λB8 Ph H=>mJ [(b1,3,[aW bz O.ai.length bZ]),(uY,0,[Z (J l8 0).J]),(dJ bz,jf bz+(J l8 0).J.toNat*5,gq (J O.ai (J l8 0).J.toNat)),(uY,1,[Z (J l8 0).state])] [0,2,4,7] 11 h (λh=>⟨⟨(h.pick 2).cell 3 rfl,bR⟩,⟨(h.pick 1).cell 0 rfl,bR⟩,⟨cE.cell lT (h.dn 4) 0 rfl,cE.cell lT (h.dn 4) 1 rfl,cE.cell lT (h.dn 4) 2 rfl,cE.cell lT (h.dn 4) 3 rfl,cE.cell lT (h.dn 4) 4 rfl,bR⟩,⟨(h.pick 1).cell 1 rfl,bR⟩,bR⟩) λw h hd =>mg hd 7 [(0,35,pA b1 3),(2,37,pA uY 0),(6,41,Z Y),(7,42,pA uY 1)]<|eI hd 0 6 1 rfl<|eI hd 1 5 3 rfl<|nr hd 4 4 rfl (pA (dJ bz) (jf bz+(J l8 0).J.toNat*5)) (λw=>Ff 132 bZ rfl rfl cE lT)<|yh hd 2 3 5 rfl rfl<|eI hd 3 2 8 rfl<|lB 9 rfl<|eW (I8 Ph h :) λw h=>G<|mu<|iF 0 10 rfl (Z B8)<|mM<|tn<|ks<|kM (h.pick 2)<|bS<|kL (h.pick 1) 0<|fP H λrY UR H=>UE (I9 (bz:=bz) (bZ:=bZ) (cE:=(bI.up 4 cE)) (wu:=bI.up 4 wu) UR h :) λGc K0 w h=>ko [Z ((rY.length:Nat):Int),U]<|G<|qd2 H λo32 H ad6=>λ_ r=>sW (λa w=>∃XJ:fB,∃XK:Nat,∃QH:List (aV×aV),∃Hl:List aV,(QH,Hl)=o32/\∃j,jY 73 (lk [(1,Z Y),(2,.func (.func 149) #[] #[]),(3,pA b1 0),(8,.map (some b3)),(9,aW XJ Hl.length XK)] j) a/\Fit z (aD (sK b1 O bz bZ::mapOf dO dO b3 QH::En 221 2 dO (aW XJ Hl.length XK) Hl::L)) w) ?_ ?_
   ·refine qq r<|wb<|λ_ r=>dr (β:=Nat) id (λm a w=>∃LK:fB,∃NP:Nat,∃Pf:List (aV×aV),∃Pg:List aV,∃oW:Int,(jH K l8 B8 rY m Pf Pg oW)=some o32/\∃j,jY 73 (lk [(1,Z Y),(2,.func (.func 149) #[] #[]),(3,pA b1 0),(8,.map (some b3)),(9,aW LK Pg.length NP),(10,pA uY 0),(11,Z B8),(48,aW Gc rY.length K0),(49,Z ((rY.length:Nat):Int)),(50,Z oW)] j) a/\Fit z (aD (sK b1 O bz bZ::mapOf dO dO b3 Pf::En 221 2 dO (aW LK Pg.length NP) Pg::QC uY (J l8 0)::zu Gc K0 rY::L)) w) K ⟨ad4,ad5,l5,(l8.drop 1),0,H,r.fj (h.se 5 [3,4,1,2,0])⟩<|?_;clear h r H;rintro k2 a w ⟨LK,NP,Pf,Pg,oW,H,j,r,h⟩;cases k2 with
    | zero=>exact absurd H (by simp[jH])
    | succ k2 =>
     rw[jH]at H;refine qq r<|aL [dm (oW<((rY.length:Nat):Int))]<|G<|wq<|dK H (λFJ H=>?_) λFJ H=>?_
     ·refine fT<|wq<|wb<|ks<|qg H λJ0 H=>ki (h.pick 4) J0<|zz (Z (J rY oW.toNat)) ((h.pick 4).cy aJ (f:=0) (bj J0) rfl)<|?_;refine bS<|G<|aL kJ<|kN h (#[Z 0,Z 0]) 221 λb40 w h=>kA h (fS b40 #[Z (J rY oW.toNat),Z B8] 221) λw h=>G<|wq<|aL [U]<|kM h<|λ_ r=>Xw (et:=221) (wn rfl) rfl rfl r rfl aZ (⟨(J rY oW.toNat),B8⟩:aV) aZ aZ LF (v0:=zT) aZ (h.pick 2)<|?_;refine ko [.tuple #[xK ((za Pf (⟨(J rY oW.toNat),B8⟩:aV)).getD zT),vB (za Pf (⟨(J rY oW.toNat),B8⟩:aV)).isSome],U,U]<|kN h (#[Z 0,Z 0]) 221 λb41 w h=>kA h (QC b41 ((za Pf (⟨(J rY oW.toNat),B8⟩:aV)).getD zT)) λw h=>bS<|G<|gP<|EN H (λDF H=>?_) λDF H=>?_
      ·refine wx<|te<|bh<|tn<|wl<|ko [Z (wi (oW+1)),Z (wi (oW+1))]<|G<|?_;exact λ_ r=>⟨_,⟨LK,NP,Pf,Pg,(wi (oW+1)),H,r.fj (h.se 7 [2,3,4,5,6])⟩,ie _⟩
      refine fT<|aL [U]<|kM (h.pick 1)<|kM (h.pick 5)<|qh h.m3 λh=>qg H λSm H=>λ_ r=>Uz (t:=218) (et:=221) (wn rfl) rfl r (Or.inl rfl) aZ (⟨(J rY oW.toNat),B8⟩:aV) (J l8 0) aZ aZ aZ LF Sm h λw h=>qq r<|G<|wl<|bS<|kM (h.pick 2)<|kV h (#[Z (J rY oW.toNat),Z B8]) 221 λQI w h=>qh h.m5 λh=>qg H λXL H=>λ_ r=>NC (n0:=Pg.length) (c:=1) (bytes:=16) (wn rfl) rfl rfl r rfl aZ aZ oT (E:=221) (xs:=Pg) aZ aZ h (news:=[(⟨(J rY oW.toNat),B8⟩:aV)]) (m:=1) rfl ((h.pick 1).news rfl) XL rfl λPj Pk w _ h r=>qq r<|bS<|kl<|bn<|tn<|wl<|ko [Z (wi (oW+1)),Z (wi (oW+1))]<|G<|?_;exact λ_ r=>⟨_,⟨Pj,Pk,(Pf++[((⟨(J rY oW.toNat),B8⟩:aV),J l8 0)]),(Pg++[(⟨(J rY oW.toNat),B8⟩:aV)]),(wi (oW+1)),H,r.fj (h.se 8 [5,2,0,6,7])⟩,ie _⟩
     refine wx<|te<|te<|bh<|tn<|?_;exact λ_ r=>⟨LK,NP,Pf,Pg,fV H,r.fj (h.se 5 [0,1,2])⟩
   clear h r;rintro a w ⟨XJ,XK,QH,Hl,rfl,j,r,h⟩;replace H:=kk2 ad6;refine qq r<|bn<|tn<|?_;exact λ_ r=>⟨_,⟨XJ,XK,QH,Hl,H,r.fj h⟩,ie _⟩
  refine wx<|te<|te<|bh<|tn<|aL da<|bY<|λ_ r=>Uw<|qq r<|?_;cases H;exact xy1 b3 (h.se 3 [1])
def pV(K:Nat)(O:aB):Nat->(List (List Int))->Int->Option ((List (List Int)))
 | 0,_,_=>none
 | k1+1,l7,g8=>(if g8<(((List.replicate O.ai.length ([]:List Int)).length:Nat):Int)then if 0<=O.bQ/\O.bQ*8<=140737488355328 then if bJ g8 l7.length then(pV K O k1 (l7.set g8.toNat (List.replicate O.bQ.toNat (0:Int))) (wi (g8+1)))else none else none else some l7)
def pW(K:Nat)(tH:Int)(yJ:(aV×aV)):(List (List Int))->Option ((List (List Int)))
 | BB=>if bJ yJ.1.J BB.length then if bJ tH (J BB yJ.1.J.toNat).length then some (BB.set yJ.1.J.toNat ((J BB yJ.1.J.toNat).set tH.toNat (O2 (J (J BB yJ.1.J.toNat) tH.toNat) yJ.1.state)))else none else none
def pX(K:Nat)(O:aB):Nat->(List (List Int))->Int->Option ((List (List Int)))
 | 0,_,_=>none
 | k2+1,WT,tH=>(if tH<O.bQ then dX (dX (sk K O tH) (λrY=>(dX (xb (pW K tH) WT rY) (λBB=>some BB)))) (λAk=>(pX K O k2 Ak (wi (tH+1))))else some WT)
def xm(K:Nat)(O:aB):Option ((List (List Int))):=
 if 0<=((O.ai.length:Nat):Int)/\((O.ai.length:Nat):Int)*24<=140737488355328 then dX ((pV K O K (List.replicate O.ai.length ([]:List Int)) 0)) (λl4=>(pX K O K l4 0))else none
theorem CW(H:xm K O=some r0)(h:iJ z (L) w)(cE:bI L 5 cU bz O.ai)(wu:bI L 5 gJ (some ⟨1,0,none⟩) yY) :
 Calls Tryz.prog 124 #[oV #[Z O.aS,Z O.dh,Z O.bQ,aW bz O.ai.length bZ]] w λe w=>∃y1 y2,e=.returned (aW y1 r0.length y2)/\Fit z (aD (LB y1 y2 r0::L)) w:=by
 unfold xm at H;refine ke func124 50 rfl λj=>ks<|kN h (#[Z O.aS,Z O.dh,Z O.bQ,aW bz O.ai.length bZ]) 85 λb1 w h=>bS<|G<|aL [U]<|kL h 3<|qg H λc2 H=>ko [Z ((O.ai.length:Nat):Int)]<|λ_ r=>E7 (own:=jR) (i:=((O.ai.length:Nat):Int)) (bytes:=24) (zc:=#[aW none 0 0]) ([]:List Int) (wn rfl) rfl rfl r rfl aZ aZ c2 rfl (by simp[Value.oneCell']) gB (E:=28) aZ aZ rfl (λh=>iQ (x:=([]:List Int)) (vp:=none) (vr:=0) (h.fC)) h λjA w _ h r=>qq r<|bS<|G<|EM H λo6 H hK5=>λ_ r=>cW (β:=Unit) (λ_ a w=>∃l4:List (List Int),l4=o6/\∃j,jY 50 (lk [(1,pA b1 0),(3,aW jA (List.replicate O.ai.length ([]:List Int)).length O.ai.length)] j) a/\Fit z (aD (sK b1 O bz bZ::uk 28 1 jR (aW jA (List.replicate O.ai.length ([]:List Int)).length O.ai.length) l4::L)) w) ?_ ?_
 ·refine qq r<|aL [U,Z (((List.replicate O.ai.length ([]:List Int)).length:Nat):Int),U]<|G<|wb<|λ_ r=>dr (β:=Nat) id (λm a w=>∃l7:List (List Int),∃g8:Int,(pV K O m l7 g8)=some o6/\∃j,jY 50 (lk [(1,pA b1 0),(3,aW jA (List.replicate O.ai.length ([]:List Int)).length O.ai.length),(12,Z (((List.replicate O.ai.length ([]:List Int)).length:Nat):Int)),(13,Z g8)] j) a/\Fit z (aD (sK b1 O bz bZ::uk 28 1 jR (aW jA (List.replicate O.ai.length ([]:List Int)).length O.ai.length) l7::L)) w) K ⟨(List.replicate O.ai.length ([]:List Int)),0,H,r.fj (h.se 2 [1,0])⟩<|?_;clear h r H;rintro k1 a w ⟨l7,g8,H,j,r,h⟩;cases k1 with
  | zero=>exact absurd H (by simp[pV])
  | succ k1 =>
   rw[pV]at H;refine qq r<|aL [dm (g8<(((List.replicate O.ai.length ([]:List Int)).length:Nat):Int))]<|G<|wq<|dK H (λc9 H=>?_) λc9 H=>?_
   ·refine fT<|wq<|wb<|aL da<|G<|wl<|ko kJ<|kL h 2<|qg H λpe H=>λ_ r=>tX (i:=O.bQ) (bytes:=8) (zc:=#[Z 0]) (0:Int) (wn rfl) rfl rfl r rfl aZ aZ pe aJ (E:=3) aZ aZ rfl rfl h λbe w _ h r=>qq r<|qg H λEt H=>kp (mR jA g8 1) (HQ (k:=.i64) (E:=28) rfl aZ aZ aZ aZ (h.pick 2) Et)<|?_;obtain⟨afK,h⟩:=h.m2.ng (bj Et);obtain⟨um,uX,I6,h⟩:=oe (h.m1);subst I6;refine qh h.m1 λh=>λ_ r=>D6 (wn rfl) rfl r rfl aZ aZ (v:=aW be (List.replicate O.bQ.toNat (0:Int)).length O.bQ.toNat) rfl rfl aZ aZ h (i:=g8.toNat) (f:=0) gB λw h=>qq r<|kl<|bn<|tn<|wl<|ko [Z (wi (g8+1)),Z (wi (g8+1))]<|G<|qh h.m2 λh=>?_;replace h:=iQ (x:=(List.replicate O.bQ.toNat (0:Int))) h;replace h:=(h.m1).AA;exact λ_ r=>⟨_,⟨(l7.set g8.toNat (List.replicate O.bQ.toNat (0:Int))),(wi (g8+1)),H,r.fj (h.se 3 [2,0])⟩,ie _⟩
   refine wx<|te<|te<|bh<|tn<|?_;exact λ_ r=>⟨(),l7,fV H,r.fj h⟩
 clear h r;rintro _ a w ⟨l4,rfl,j,r,h⟩;replace H:=EK hK5;refine qq r<|wq<|aL [U]<|kL h 2<|bS<|G<|wb<|λ_ r=>dr (β:=Nat) id (λm a w=>∃WT:List (List Int),∃tH:Int,(pX K O m WT tH)=some r0/\∃j,jY 50 (lk [(1,pA b1 0),(3,aW jA (List.replicate O.ai.length ([]:List Int)).length O.ai.length),(24,Z O.bQ),(25,Z tH)] j) a/\Fit z (aD (sK b1 O bz bZ::uk 28 1 jR (aW jA (List.replicate O.ai.length ([]:List Int)).length O.ai.length) WT::L)) w) K ⟨l4,0,H,r.fj h⟩<|?_;clear h r H;rintro k2 a w ⟨WT,tH,H,j,r,h⟩;cases k2 with
 | zero=>exact absurd H (by simp[pX])
 | succ k2 =>
  rw[pX]at H;refine qq r<|aL [dm (tH<O.bQ)]<|G<|wq<|dK H (λsj H=>?_) λsj H=>?_
  ·refine fT<|EM H λo22 H ad7=>λ_ r=>cW (β:=Unit) (λ_ a w=>∃Ak:List (List Int),Ak=o22/\∃j,jY 50 (lk [(1,pA b1 0),(3,aW jA (List.replicate O.ai.length ([]:List Int)).length O.ai.length),(24,Z O.bQ),(25,Z tH)] j) a/\Fit z (aD (sK b1 O bz bZ::uk 28 1 jR (aW jA (List.replicate O.ai.length ([]:List Int)).length O.ai.length) Ak::L)) w) ?_ ?_
   ·refine qq r<|wb<|aL da<|G<|ks<|kM h<|fP H λrY UR H=>bS<|xc1 (DE (bz:=bz) (bZ:=bZ) (cE:=(bI.up 2 cE)) (wu:=bI.up 2 wu) UR h :) λab3 w h=>λ_ r=>UA (kt:=221) (et:=221) (wn rfl) rfl rfl r rfl aZ aZ h λb26 w _ h r=>qq r<|G<|wb<|fP H λPm LN H=>λ_ r=>O7 rY (pW K tH) WT (λab4 s_ a w=>∃BB:List (List Int),BB=s_/\∃j,jY 50 (lk [(1,pA b1 0),(3,aW jA (List.replicate O.ai.length ([]:List Int)).length O.ai.length),(5,Z tH),(24,Z O.bQ),(25,Z tH),(31,pA b26 0)] j) a/\Fit z (aD (sK b1 O bz bZ::uk 28 1 jR (aW jA (List.replicate O.ai.length ([]:List Int)).length O.ai.length) BB::IV b26 ab3 rY.length ab4::mapOf dO dO ab3 rY::L)) w) ⟨WT,rfl,r.fj (h.se 4 [2,3,0,1])⟩<|?_;clear h r;rintro ab4 _ a w hs_ ⟨BB,rfl,j,r,h⟩;refine qq r<|ks<|qh h.m3.m3 λh=>λ_ r=>Xx (wn rfl) rfl rfl r rfl aZ rfl h ?_ ?_
    ·clear r;intro ab5 a r;have e_:=hs_.done LN ab5;subst e_;refine qq r<|bS<|G<|wq<|λ_ r=>jw r (b:=false) rfl<|qq r<|wx<|te<|te<|bh<|bn<|tn<|?_;exact λ_ r=>⟨(),BB,fV H,r.fj (h.se 4 [2,3])⟩
    clear r h;intro afL yJ w a hx_ hi_ h r;obtain⟨s1_,Hs_,hp_⟩:=hs_.push LN hx_ hi_;clear H;have H:=Hs_;rw[pW]at H;refine qq r<|bS<|G<|wq<|λ_ r=>fW r (b:=true) rfl<|qq r<|fT<|wb<|ks<|λ_ r=>UB (wn rfl) rfl rfl r rfl aZ rfl h hx_<|?_;refine bS<|kN h (#[Z 0,Z 0]) 221 λLP w h=>kA h (QC LP yJ.1) λw h=>G<|qg H λFh H=>?_;obtain⟨afM,h⟩:=h.m4.ng (bj Fh);obtain⟨UZ,ab6,Sh,h⟩:=oe (h.m1);subst Sh;refine qg H λJ0 H=>mJ [(LP,0,[Z yJ.1.J]),(dJ jA,yJ.1.J.toNat*1,[aW UZ (J BB yJ.1.J.toNat).length ab6]),(dJ UZ,tH.toNat*1,[Z (J (J BB yJ.1.J.toNat) tH.toNat)]),(LP,1,[Z yJ.1.state])] [1,3,6,8] 13 h (λh=>⟨⟨(h.pick 2).cell 0 rfl,bR⟩,⟨(h.pick 1).qP gB (f:=0) rfl,bR⟩,⟨h.cy aJ (f:=0) (bj J0) rfl,bR⟩,⟨(h.pick 2).cell 1 rfl,bR⟩,bR⟩) λw h hd =>mg hd 9 [(0,36,aW jA (List.replicate O.ai.length ([]:List Int)).length O.ai.length),(1,37,pA LP 0),(5,41,Z tH),(8,44,pA LP 1)]<|eI hd 0 8 2 rfl<|nr hd 7 3 rfl (pA (dJ jA) (yJ.1.J.toNat*1)) (λw=>ye (k:=.i64) (E:=28) rfl aZ aZ aZ aZ (h.pick 1) Fh)<|eI hd 1 6 4 rfl<|nr hd 5 6 rfl (mR UZ tH 1) (λw=>uI 3 rfl h J0)<|eI hd 2 4 7 rfl<|eI hd 3 3 9 rfl<|nr hd 2 10 rfl (Z (O2 (J (J BB yJ.1.J.toNat) tH.toNat) yJ.1.state)) (λw=>ror rfl aZ aZ)<|nr hd 1 11 rfl (mR UZ tH 1) (λw=>uI 3 rfl h J0)<|λ_ r=>lj 12 rfl<|Lr (wn rfl) r aJ h tH.toNat 0 (Z (O2 (J (J BB yJ.1.J.toNat) tH.toNat) yJ.1.state)) (J (J BB yJ.1.J.toNat) tH.toNat) (O2 (J (J BB yJ.1.J.toNat) tH.toNat) yJ.1.state) (bj J0) λw h=>qq r<|G<|mu<|mM<|bn<|tn<|?_;replace h:=h.Lt (λq_=>CG 28 1 jR (aW jA (List.replicate O.ai.length ([]:List Int)).length O.ai.length) BB yJ.1.J.toNat [aW UZ q_ ab6]);replace h:=iQ (x:=((J BB yJ.1.J.toNat).set tH.toNat (O2 (J (J BB yJ.1.J.toNat) tH.toNat) yJ.1.state))) h;replace h:=(h.m1).AA;exact λ_ r=>⟨_,_,hp_,(BB.set yJ.1.J.toNat ((J BB yJ.1.J.toNat).set tH.toNat (O2 (J (J BB yJ.1.J.toNat) tH.toNat) yJ.1.state))),fV H,r.fj (h.se 5 [4,0,2,3])⟩
   clear h r;rintro _ a w ⟨Ak,rfl,j,r,h⟩;replace H:=EK ad7;refine qq r<|wl<|ko [Z (wi (tH+1)),Z (wi (tH+1))]<|G<|?_;exact λ_ r=>⟨_,⟨Ak,(wi (tH+1)),H,r.fj h⟩,ie _⟩
  refine wx<|te<|te<|bh<|tn<|aL da<|bY<|λ_ r=>rX (aW jA (List.replicate O.ai.length ([]:List Int)).length O.ai.length) rfl r<|qh h.m1 λh=>?_;have UW:(List.replicate O.ai.length ([]:List Int)).length=WT.length:=h.O0;replace h:=Fit.II UW (λq_=>uk 28 1 jR (aW jA q_ O.ai.length) WT) h;cases H;exact⟨jA,O.ai.length,(by first | rfl | simp only[UW]),h.se 2 [0]⟩
def jC(K:Nat)(r2:List (List Int))(g6:Int):Nat->Int->Int->Option (Int)
 | 0,_,_=>none
 | k2+1,oW,DG=>(if DG<(((J r2 g6.toNat).length:Nat):Int)then if bJ DG (J r2 g6.toNat).length then(if(iu (J (J r2 g6.toNat) DG.toNat) (2:Int))=0 then(jC K r2 g6 k2 oW (wi (DG+1)))else(jC K r2 g6 k2 56 (wi (DG+1))))else none else some oW)
def lQ(K:Nat)(O:Int)(Y:aB)(r2:List (List Int)):Nat->Int->Option ((Unit)⊕nV)
 | 0,_=>none
 | k1+1,g6=>(if g6<((Y.ai.length:Nat):Int)then Ax (if bJ g6 Y.ai.length then dX ((if(J Y.ai g6.toNat).aG=5 then if bJ g6 r2.length then if bJ (J Y.ai g6.toNat).A (J r2 g6.toNat).length then(if(iu (J (J r2 g6.toNat) (J Y.ai g6.toNat).A.toNat) (2:Int))=0 then some 0 else some 54)else none else none else(if(J Y.ai g6.toNat).aG=7 then if bJ g6 r2.length then if bJ (J Y.ai g6.toNat).B (J r2 g6.toNat).length then(if(iu (J (J r2 g6.toNat) (J Y.ai g6.toNat).B.toNat) (3:Int))=0 then some 0 else some 55)else none else none else(if(J Y.ai g6.toNat).aG=9 then if bJ g6 r2.length then(jC K r2 g6 K 0 0)else none else some 0)))) (λrf=>(if rf=0 then some (.inl ())else some (.inr (.inr (⟨rf,O,g6⟩:nV)))))else none) ((lQ K O Y r2 k1 (wi (g6+1))))else some (.inl ()))
def wP(K:Nat)(O:Int)(Y:aB):Option ((Unit)⊕nV):=
 dX (xm K Y) (λr2=>(lQ K O Y r2 K 0))
abbrev u6_:List Value:=[U,U,U,U,U,U]
theorem Ja{K:Nat}{O:Int}{Y:aB}{dk:fB}{dy:Nat}(H:wP K O Y=some (.inl ()))(h:iJ z (L) w)(eR:bI L 5 cU dk Y.ai)(wu:bI L 5 gJ (some ⟨1,0,none⟩) yY) :
 nH 90 #[Z O,oV #[Z Y.aS,Z Y.dh,Z Y.bQ,aW dk Y.ai.length dy]] w z (.tuple #[]) (L):=by
 unfold wP at H;refine ke func90 70 rfl λj=>ks<|kN h (#[Z Y.aS,Z Y.dh,Z Y.bQ,aW dk Y.ai.length dy]) 85 λb1 w h=>G<|ks<|kM h<|fP H λr2 e3 H=>UE (CW (bz:=dk) (bZ:=dy) (cE:=(bI.up 1 eR)) (wu:=bI.up 1 wu) e3 h :) λx4 x5 w h=>bS<|G<|aL [U]<|kL (h.pick 1) 3<|ko [Z ((Y.ai.length:Nat):Int),U]<|G<|wb<|λ_ r=>dr (β:=Nat) id (λm a w=>∃g6:Int,(lQ K O Y r2 m g6)=some (.inl ())/\∃j,jY 70 (lk [(0,Z O),(4,aW x4 r2.length x5),(13,aW dk Y.ai.length dy),(14,Z ((Y.ai.length:Nat):Int)),(15,Z g6)] j) a/\Fit z (aD (LB x4 x5 r2::L)) w) K ⟨0,H,r.fj (h.se 2 [0])⟩<|?_;clear h r H;rintro k1 a w ⟨g6,H,j,r,h⟩;cases k1 with
 | zero=>exact absurd H (by simp[lQ])
 | succ k1 =>
  rw[lQ]at H;refine qq r<|aL [dm (g6<((Y.ai.length:Nat):Int))]<|G<|wq<|dK H (λc7 H=>?_) λc7 H=>?_
  ·refine fT<|?_;obtain⟨o9,H,NL⟩:=FU H;refine λ_ r=>cW (β:=Unit) (λ_ a w=>.inl ()=o9/\∃j,jY 70 (lk [(0,Z O),(4,aW x4 r2.length x5),(13,aW dk Y.ai.length dy),(14,Z ((Y.ai.length:Nat):Int)),(15,Z g6)] j) a/\Fit z (aD (LB x4 x5 r2::L)) w) ?_ ?_
   ·refine qq r<|wb<|ks<|qg H λpe H=>bS<|kj 132 dy eR pe<|yw (gO (J Y.ai g6.toNat)) (cs:=gq (J Y.ai g6.toNat)) ⟨eR.cell pe (h.dn 1) 0 rfl,eR.cell pe (h.dn 1) 1 rfl,eR.cell pe (h.dn 1) 2 rfl,eR.cell pe (h.dn 1) 3 rfl,eR.cell pe (h.dn 1) 4 rfl,bR⟩<|?_;refine kN h (DA) 132 λPb w h=>bS<|kA h (wD Pb (J Y.ai g6.toNat)) λw h=>G<|gP<|EM H λo14 H aav=>λ_ r=>cW (β:=Unit) (λ_ a w=>∃rf:Int,rf=o14/\∃j,jY 70 (lk [(0,Z O),(4,aW x4 r2.length x5),(5,Z g6),(7,Z rf),(13,aW dk Y.ai.length dy),(14,Z ((Y.ai.length:Nat):Int)),(15,Z g6)] j) a/\Fit z (aD (LB x4 x5 r2::L)) w) ?_ ?_
    ·refine qq r<|aL [U]<|kL h 0<|G<|wb<|aL [vB ((J Y.ai g6.toNat).aG==5),vB ((J Y.ai g6.toNat).aG==5)]<|G<|dK H (λpT H=>?_) λpT H=>?_
     ·refine wq<|qg H λvJ H=>?_;obtain⟨ab7,h⟩:=h.m1.ng (bj vJ);obtain⟨Gd,Pn,KZ,h⟩:=oe (h.m1);subst KZ;refine qg H λsL H=>mJ [(dJ x4,g6.toNat*1,[aW Gd (J r2 g6.toNat).length Pn]),(Pb,1,[Z (J Y.ai g6.toNat).A]),(dJ Gd,(J Y.ai g6.toNat).A.toNat*1,[Z (J (J r2 g6.toNat) (J Y.ai g6.toNat).A.toNat)])] [2,4,6] 10 h (λh=>⟨⟨(h.pick 1).qP gB (f:=0) rfl,bR⟩,⟨(h.pick 2).cell 1 rfl,bR⟩,⟨h.cy aJ (f:=0) (bj sL) rfl,bR⟩,bR⟩) λw h hd =>mg hd 8 [(0,24,aW x4 r2.length x5),(1,25,Z g6)]<|nr hd 7 2 rfl (mR x4 g6 1) (λw=>ye (k:=.i64) (E:=28) rfl aZ aZ aZ aZ (h.pick 1) vJ)<|mg hd 6 [(4,28,pA Pb 1)]<|eI hd 0 5 3 rfl<|eI hd 1 4 5 rfl<|nr hd 3 6 rfl (pA (dJ Gd) ((J Y.ai g6.toNat).A.toNat*1)) (λw=>uI 3 rfl h sL)<|eI hd 2 2 7 rfl<|nr hd 1 8 rfl (Z (iu (J (J r2 g6.toNat) (J Y.ai g6.toNat).A.toNat) (2:Int))) (λw=>rand rfl aZ aZ)<|mg hd 0 [(9,33,vB ((iu (J (J r2 g6.toNat) (J Y.ai g6.toNat).A.toNat) (2:Int)) != 0))]<|mM<|tn<|rV H (λF5 H=>?_) λF5 H=>?_
      ·refine wk<|bn<|tn<|?_;replace h:=iQ (x:=(J r2 g6.toNat)) h;replace h:=(h.m1).iC;exact λ_ r=>⟨(),0,fV H,r.fj (h.se 2 [0])⟩
      refine wl<|bS<|kl<|bn<|tn<|?_;replace h:=iQ (x:=(J r2 g6.toNat)) h;replace h:=(h.m1).iC;exact λ_ r=>⟨(),54,fV H,r.fj (h.se 2 [0])⟩
     refine aL [vB ((J Y.ai g6.toNat).aG==7),vB ((J Y.ai g6.toNat).aG==7)]<|G<|dK H (λBC H=>?_) λBC H=>?_
     ·refine wq<|qg H λBj H=>?_;obtain⟨ad8,h⟩:=h.m1.ng (bj Bj);obtain⟨AG,DB,Sj,h⟩:=oe (h.m1);subst Sj;refine qg H λBw H=>mJ [(dJ x4,g6.toNat*1,[aW AG (J r2 g6.toNat).length DB]),(Pb,2,[Z (J Y.ai g6.toNat).B]),(dJ AG,(J Y.ai g6.toNat).B.toNat*1,[Z (J (J r2 g6.toNat) (J Y.ai g6.toNat).B.toNat)])] [2,4,6] 10 h (λh=>⟨⟨(h.pick 1).qP gB (f:=0) rfl,bR⟩,⟨(h.pick 2).cell 2 rfl,bR⟩,⟨h.cy aJ (f:=0) (bj Bw) rfl,bR⟩,bR⟩) λw h hd =>mg hd 8 [(0,36,aW x4 r2.length x5),(1,37,Z g6)]<|nr hd 7 2 rfl (mR x4 g6 1) (λw=>ye (k:=.i64) (E:=28) rfl aZ aZ aZ aZ (h.pick 1) Bj)<|mg hd 6 [(4,40,pA Pb 2)]<|eI hd 0 5 3 rfl<|eI hd 1 4 5 rfl<|nr hd 3 6 rfl (pA (dJ AG) ((J Y.ai g6.toNat).B.toNat*1)) (λw=>uI 3 rfl h Bw)<|eI hd 2 2 7 rfl<|nr hd 1 8 rfl (Z (iu (J (J r2 g6.toNat) (J Y.ai g6.toNat).B.toNat) (3:Int))) (λw=>rand rfl aZ aZ)<|mg hd 0 [(9,45,vB ((iu (J (J r2 g6.toNat) (J Y.ai g6.toNat).B.toNat) (3:Int)) != 0))]<|mM<|tn<|rV H (λvD H=>?_) λvD H=>?_
      ·refine wk<|bn<|tn<|?_;replace h:=iQ (x:=(J r2 g6.toNat)) h;replace h:=(h.m1).iC;exact λ_ r=>⟨(),0,fV H,r.fj (h.se 2 [0])⟩
      refine wl<|bS<|kl<|bn<|tn<|?_;replace h:=iQ (x:=(J r2 g6.toNat)) h;replace h:=(h.m1).iC;exact λ_ r=>⟨(),55,fV H,r.fj (h.se 2 [0])⟩
     refine aL [vB ((J Y.ai g6.toNat).aG==9),vB ((J Y.ai g6.toNat).aG==9)]<|G<|dK H (λxV H=>?_) λxV H=>?_
     ·refine ks<|qg H λEP H=>ko da<|kp (mR x4 g6 1) (HQ (k:=.i64) (E:=28) rfl aZ aZ aZ aZ (h.pick 1) EP)<|?_;obtain⟨ad9,h⟩:=h.m1.ng (bj EP);obtain⟨Hu,Hw,LI,h⟩:=oe (h.m1);subst LI;refine zz (aW Hu (J r2 g6.toNat).length Hw) ((h.pick 1).qP gB (f:=0) rfl)<|?_;refine ko [Z (((J r2 g6.toNat).length:Nat):Int),U]<|G<|wb<|λ_ r=>dr (β:=Nat) id (λm a w=>∃oW:Int,∃DG:Int,(jC K r2 g6 m oW DG)=some o14/\∃j,jY 70 (lk [(0,Z O),(4,aW x4 r2.length x5),(5,Z g6),(7,Z oW),(13,aW dk Y.ai.length dy),(14,Z ((Y.ai.length:Nat):Int)),(15,Z g6),(51,aW Hu (J r2 g6.toNat).length Hw),(52,Z (((J r2 g6.toNat).length:Nat):Int)),(53,Z DG)] j) a/\Fit z (aD (CG 28 1 jR (aW x4 r2.length x5) r2 g6.toNat [aW Hu (J r2 g6.toNat).length Hw]::zu Hu Hw (J r2 g6.toNat)::L)) w) K ⟨0,0,H,r.fj (h.se 3 [1,0])⟩<|?_;clear h r H;rintro k2 a w ⟨oW,DG,H,j,r,h⟩;cases k2 with
      | zero=>exact absurd H (by simp[jC])
      | succ k2 =>
       rw[jC]at H;refine qq r<|aL [dm (DG<(((J r2 g6.toNat).length:Nat):Int))]<|G<|wq<|dK H (λJ0 H=>?_) λJ0 H=>?_
       ·refine fT<|wq<|wb<|ks<|qg H λK1 H=>ki (h.pick 1) K1<|zz (Z (J (J r2 g6.toNat) DG.toNat)) ((h.pick 1).cy aJ (f:=0) (bj K1) rfl)<|?_;refine bS<|G<|aL [U]<|kp (Z (iu (J (J r2 g6.toNat) DG.toNat) (2:Int))) (rand rfl aZ aZ)<|ko [vB ((iu (J (J r2 g6.toNat) DG.toNat) (2:Int)) != 0)]<|G<|rV H (λAK H=>?_) λAK H=>?_
        ·refine wk<|bn<|tn<|wl<|ko [Z (wi (DG+1)),Z (wi (DG+1))]<|G<|?_;exact λ_ r=>⟨_,⟨oW,(wi (DG+1)),H,r.fj h⟩,ie _⟩
        refine wl<|bS<|kl<|bn<|tn<|wl<|ko [Z (wi (DG+1)),Z (wi (DG+1))]<|G<|?_;exact λ_ r=>⟨_,⟨56,(wi (DG+1)),H,r.fj h⟩,ie _⟩
       refine wx<|te<|te<|bh<|bn<|tn<|qh h.m1 λh=>?_;replace h:=iQ (x:=(J r2 g6.toNat)) h;replace h:=(h.m1).iC;exact λ_ r=>⟨(),oW,fV H,r.fj h⟩
     refine wk<|bn<|tn<|?_;exact λ_ r=>⟨(),0,fV H,r.fj (h.se 2 [1])⟩
    clear h r;rintro _ a w ⟨rf,rfl,j,r,h⟩;replace H:=EK aav;refine qq r<|aL [U,vB (rf != 0)]<|G<|rV H (λDF H=>?_) λDF H=>?_
    ·refine wk<|bn<|tn<|?_;exact λ_ r=>⟨(),fV H,r.fj h⟩
    refine wl<|ko u6_<|λ_ r=>FY (wn rfl) r rfl (T:=171) (u:=oV #[Z rf,Z O,Z g6]) aZ<|ve<|oS<|oS<|ve<|Dq r<|?_;replace H:=wL H NL;cases H
   clear h r;rintro _ a w ⟨rfl,j,r,h⟩;replace H:=FV NL;refine qq r<|wl<|ko [Z (wi (g6+1)),Z (wi (g6+1))]<|G<|?_;exact λ_ r=>⟨_,⟨(wi (g6+1)),H,r.fj h⟩,ie _⟩
  refine wx<|te<|te<|bh<|?_;cases H;exact IX (h.se 1 [])
theorem Jb{K:Nat}{O:Int}{Y:aB}{dk:fB}{dy:Nat}{rP:nV}(H:wP K O Y=some (.inr rP))(h:iJ z (L) w)(eR:bI L 5 cU dk Y.ai)(wu:bI L 5 gJ (some ⟨1,0,none⟩) yY) :
 Calls Tryz.prog 90 #[Z O,oV #[Z Y.aS,Z Y.dh,Z Y.bQ,aW dk Y.ai.length dy]] w λe w=>e=.panicked [{v:=if_ 171 (B6 rP),recovered:=false}]/\Fit z (aD (L)) w:=by
 unfold wP at H;refine ke func90 70 rfl λj=>ks<|kN h (#[Z Y.aS,Z Y.dh,Z Y.bQ,aW dk Y.ai.length dy]) 85 λb1 w h=>G<|ks<|kM h<|fP H λr2 e3 H=>UE (CW (bz:=dk) (bZ:=dy) (cE:=(bI.up 1 eR)) (wu:=bI.up 1 wu) e3 h :) λx4 x5 w h=>bS<|G<|aL [U]<|kL (h.pick 1) 3<|ko [Z ((Y.ai.length:Nat):Int),U]<|G<|wb<|λ_ r=>dr (β:=Nat) id (λm a w=>∃g6:Int,(lQ K O Y r2 m g6)=some (.inr rP)/\∃j,jY 70 (lk [(0,Z O),(4,aW x4 r2.length x5),(13,aW dk Y.ai.length dy),(14,Z ((Y.ai.length:Nat):Int)),(15,Z g6)] j) a/\Fit z (aD (LB x4 x5 r2::L)) w) K ⟨0,H,r.fj (h.se 2 [0])⟩<|?_;clear h r H;rintro k1 a w ⟨g6,H,j,r,h⟩;cases k1 with
 | zero=>exact absurd H (by simp[lQ])
 | succ k1 =>
  rw[lQ]at H;refine qq r<|aL [dm (g6<((Y.ai.length:Nat):Int))]<|G<|wq<|dK H (λc7 H=>?_) λc7 H=>?_
  ·refine fT<|?_;obtain⟨o9,H,NL⟩:=FU H;refine λ_ r=>cW (β:=Unit) (λ_ a w=>.inl ()=o9/\∃j,jY 70 (lk [(0,Z O),(4,aW x4 r2.length x5),(13,aW dk Y.ai.length dy),(14,Z ((Y.ai.length:Nat):Int)),(15,Z g6)] j) a/\Fit z (aD (LB x4 x5 r2::L)) w) ?_ ?_
   ·refine qq r<|wb<|ks<|qg H λpe H=>bS<|kj 132 dy eR pe<|yw (gO (J Y.ai g6.toNat)) (cs:=gq (J Y.ai g6.toNat)) ⟨eR.cell pe (h.dn 1) 0 rfl,eR.cell pe (h.dn 1) 1 rfl,eR.cell pe (h.dn 1) 2 rfl,eR.cell pe (h.dn 1) 3 rfl,eR.cell pe (h.dn 1) 4 rfl,bR⟩<|?_;refine kN h (DA) 132 λPb w h=>bS<|kA h (wD Pb (J Y.ai g6.toNat)) λw h=>G<|gP<|EM H λo14 H aav=>λ_ r=>cW (β:=Unit) (λ_ a w=>∃rf:Int,rf=o14/\∃j,jY 70 (lk [(0,Z O),(4,aW x4 r2.length x5),(5,Z g6),(7,Z rf),(13,aW dk Y.ai.length dy),(14,Z ((Y.ai.length:Nat):Int)),(15,Z g6)] j) a/\Fit z (aD (LB x4 x5 r2::L)) w) ?_ ?_
    ·refine qq r<|aL [U]<|kL h 0<|G<|wb<|aL [vB ((J Y.ai g6.toNat).aG==5),vB ((J Y.ai g6.toNat).aG==5)]<|G<|dK H (λpT H=>?_) λpT H=>?_
     ·refine wq<|qg H λvJ H=>?_;obtain⟨ab7,h⟩:=h.m1.ng (bj vJ);obtain⟨Gd,Pn,KZ,h⟩:=oe (h.m1);subst KZ;refine qg H λsL H=>mJ [(dJ x4,g6.toNat*1,[aW Gd (J r2 g6.toNat).length Pn]),(Pb,1,[Z (J Y.ai g6.toNat).A]),(dJ Gd,(J Y.ai g6.toNat).A.toNat*1,[Z (J (J r2 g6.toNat) (J Y.ai g6.toNat).A.toNat)])] [2,4,6] 10 h (λh=>⟨⟨(h.pick 1).qP gB (f:=0) rfl,bR⟩,⟨(h.pick 2).cell 1 rfl,bR⟩,⟨h.cy aJ (f:=0) (bj sL) rfl,bR⟩,bR⟩) λw h hd =>mg hd 8 [(0,24,aW x4 r2.length x5),(1,25,Z g6)]<|nr hd 7 2 rfl (mR x4 g6 1) (λw=>ye (k:=.i64) (E:=28) rfl aZ aZ aZ aZ (h.pick 1) vJ)<|mg hd 6 [(4,28,pA Pb 1)]<|eI hd 0 5 3 rfl<|eI hd 1 4 5 rfl<|nr hd 3 6 rfl (pA (dJ Gd) ((J Y.ai g6.toNat).A.toNat*1)) (λw=>uI 3 rfl h sL)<|eI hd 2 2 7 rfl<|nr hd 1 8 rfl (Z (iu (J (J r2 g6.toNat) (J Y.ai g6.toNat).A.toNat) (2:Int))) (λw=>rand rfl aZ aZ)<|mg hd 0 [(9,33,vB ((iu (J (J r2 g6.toNat) (J Y.ai g6.toNat).A.toNat) (2:Int)) != 0))]<|mM<|tn<|rV H (λF5 H=>?_) λF5 H=>?_
      ·refine wk<|bn<|tn<|?_;replace h:=iQ (x:=(J r2 g6.toNat)) h;replace h:=(h.m1).iC;exact λ_ r=>⟨(),0,fV H,r.fj (h.se 2 [0])⟩
      refine wl<|bS<|kl<|bn<|tn<|?_;replace h:=iQ (x:=(J r2 g6.toNat)) h;replace h:=(h.m1).iC;exact λ_ r=>⟨(),54,fV H,r.fj (h.se 2 [0])⟩
     refine aL [vB ((J Y.ai g6.toNat).aG==7),vB ((J Y.ai g6.toNat).aG==7)]<|G<|dK H (λBC H=>?_) λBC H=>?_
     ·refine wq<|qg H λBj H=>?_;obtain⟨ad8,h⟩:=h.m1.ng (bj Bj);obtain⟨AG,DB,Sj,h⟩:=oe (h.m1);subst Sj;refine qg H λBw H=>mJ [(dJ x4,g6.toNat*1,[aW AG (J r2 g6.toNat).length DB]),(Pb,2,[Z (J Y.ai g6.toNat).B]),(dJ AG,(J Y.ai g6.toNat).B.toNat*1,[Z (J (J r2 g6.toNat) (J Y.ai g6.toNat).B.toNat)])] [2,4,6] 10 h (λh=>⟨⟨(h.pick 1).qP gB (f:=0) rfl,bR⟩,⟨(h.pick 2).cell 2 rfl,bR⟩,⟨h.cy aJ (f:=0) (bj Bw) rfl,bR⟩,bR⟩) λw h hd =>mg hd 8 [(0,36,aW x4 r2.length x5),(1,37,Z g6)]<|nr hd 7 2 rfl (mR x4 g6 1) (λw=>ye (k:=.i64) (E:=28) rfl aZ aZ aZ aZ (h.pick 1) Bj)<|mg hd 6 [(4,40,pA Pb 2)]<|eI hd 0 5 3 rfl<|eI hd 1 4 5 rfl<|nr hd 3 6 rfl (pA (dJ AG) ((J Y.ai g6.toNat).B.toNat*1)) (λw=>uI 3 rfl h Bw)<|eI hd 2 2 7 rfl<|nr hd 1 8 rfl (Z (iu (J (J r2 g6.toNat) (J Y.ai g6.toNat).B.toNat) (3:Int))) (λw=>rand rfl aZ aZ)<|mg hd 0 [(9,45,vB ((iu (J (J r2 g6.toNat) (J Y.ai g6.toNat).B.toNat) (3:Int)) != 0))]<|mM<|tn<|rV H (λvD H=>?_) λvD H=>?_
      ·refine wk<|bn<|tn<|?_;replace h:=iQ (x:=(J r2 g6.toNat)) h;replace h:=(h.m1).iC;exact λ_ r=>⟨(),0,fV H,r.fj (h.se 2 [0])⟩
      refine wl<|bS<|kl<|bn<|tn<|?_;replace h:=iQ (x:=(J r2 g6.toNat)) h;replace h:=(h.m1).iC;exact λ_ r=>⟨(),55,fV H,r.fj (h.se 2 [0])⟩
     refine aL [vB ((J Y.ai g6.toNat).aG==9),vB ((J Y.ai g6.toNat).aG==9)]<|G<|dK H (λxV H=>?_) λxV H=>?_
     ·refine ks<|qg H λEP H=>ko da<|kp (mR x4 g6 1) (HQ (k:=.i64) (E:=28) rfl aZ aZ aZ aZ (h.pick 1) EP)<|?_;obtain⟨ad9,h⟩:=h.m1.ng (bj EP);obtain⟨Hu,Hw,LI,h⟩:=oe (h.m1);subst LI;refine zz (aW Hu (J r2 g6.toNat).length Hw) ((h.pick 1).qP gB (f:=0) rfl)<|?_;refine ko [Z (((J r2 g6.toNat).length:Nat):Int),U]<|G<|wb<|λ_ r=>dr (β:=Nat) id (λm a w=>∃oW:Int,∃DG:Int,(jC K r2 g6 m oW DG)=some o14/\∃j,jY 70 (lk [(0,Z O),(4,aW x4 r2.length x5),(5,Z g6),(7,Z oW),(13,aW dk Y.ai.length dy),(14,Z ((Y.ai.length:Nat):Int)),(15,Z g6),(51,aW Hu (J r2 g6.toNat).length Hw),(52,Z (((J r2 g6.toNat).length:Nat):Int)),(53,Z DG)] j) a/\Fit z (aD (CG 28 1 jR (aW x4 r2.length x5) r2 g6.toNat [aW Hu (J r2 g6.toNat).length Hw]::zu Hu Hw (J r2 g6.toNat)::L)) w) K ⟨0,0,H,r.fj (h.se 3 [1,0])⟩<|?_;clear h r H;rintro k2 a w ⟨oW,DG,H,j,r,h⟩;cases k2 with
      | zero=>exact absurd H (by simp[jC])
      | succ k2 =>
       rw[jC]at H;refine qq r<|aL [dm (DG<(((J r2 g6.toNat).length:Nat):Int))]<|G<|wq<|dK H (λJ0 H=>?_) λJ0 H=>?_
       ·refine fT<|wq<|wb<|ks<|qg H λK1 H=>ki (h.pick 1) K1<|zz (Z (J (J r2 g6.toNat) DG.toNat)) ((h.pick 1).cy aJ (f:=0) (bj K1) rfl)<|?_;refine bS<|G<|aL [U]<|kp (Z (iu (J (J r2 g6.toNat) DG.toNat) (2:Int))) (rand rfl aZ aZ)<|ko [vB ((iu (J (J r2 g6.toNat) DG.toNat) (2:Int)) != 0)]<|G<|rV H (λAK H=>?_) λAK H=>?_
        ·refine wk<|bn<|tn<|wl<|ko [Z (wi (DG+1)),Z (wi (DG+1))]<|G<|?_;exact λ_ r=>⟨_,⟨oW,(wi (DG+1)),H,r.fj h⟩,ie _⟩
        refine wl<|bS<|kl<|bn<|tn<|wl<|ko [Z (wi (DG+1)),Z (wi (DG+1))]<|G<|?_;exact λ_ r=>⟨_,⟨56,(wi (DG+1)),H,r.fj h⟩,ie _⟩
       refine wx<|te<|te<|bh<|bn<|tn<|qh h.m1 λh=>?_;replace h:=iQ (x:=(J r2 g6.toNat)) h;replace h:=(h.m1).iC;exact λ_ r=>⟨(),oW,fV H,r.fj h⟩
     refine wk<|bn<|tn<|?_;exact λ_ r=>⟨(),0,fV H,r.fj (h.se 2 [1])⟩
    clear h r;rintro _ a w ⟨rf,rfl,j,r,h⟩;replace H:=EK aav;refine qq r<|aL [U,vB (rf != 0)]<|G<|rV H (λDF H=>?_) λDF H=>?_
    ·refine wk<|bn<|tn<|?_;exact λ_ r=>⟨(),fV H,r.fj h⟩
    refine wl<|ko u6_<|λ_ r=>FY (wn rfl) r rfl (T:=171) (u:=oV #[Z rf,Z O,Z g6]) aZ<|ve<|oS<|oS<|ve<|Dq r<|?_;replace H:=wL H NL;replace H:=ejR H;subst H;exact⟨rfl,h.se 1 []⟩
   clear h r;rintro _ a w ⟨rfl,j,r,h⟩;replace H:=FV NL;refine qq r<|wl<|ko [Z (wi (g6+1)),Z (wi (g6+1))]<|G<|?_;exact λ_ r=>⟨_,⟨(wi (g6+1)),H,r.fj h⟩,ie _⟩
  refine wx<|te<|te<|bh<|λ_ r=>qO rfl r<|?_;cases H
def pI(K:Nat)(O:aE):Nat->Int->Option ((Unit)⊕(eN))
 | 0,_=>none
 | k1+1,g9=>(if g9<((O.ah.length:Nat):Int)then if bJ g9 O.ah.length then dX (vY (J O.ah g9.toNat)) (λwQ=>(if wQ=true then(pI K O k1 (wi (g9+1)))else some (.inr (⟨51,g9,0⟩:eN))))else none else some (.inl ()))
def pJ(K:Nat)(O:aE):Nat->Int->Option ((Unit)⊕(eN))
 | 0,_=>none
 | k2+1,tH=>(if tH<((O.ah.length:Nat):Int)then if bJ tH O.ah.length then dX (oC K tH (J O.ah tH.toNat) O.ah) (λMN=>(match MN with | .inl q24=>(pJ K O k2 (wi (tH+1))) | .inr q25=>some (.inr (⟨q25.F2,q25.Eo,q25.I1⟩:eN))))else none else some (.inl ()))
def rH(K:Nat)(O:aE):Nat->Int->Option (eN)
 | 0,_=>none
 | k3+1,nU=>(if nU<((O.ah.length:Nat):Int)then if bJ nU O.ah.length then dX (wP K nU (J O.ah nU.toNat)) (λCQ=>(match CQ with | .inl q32=>(rH K O k3 (wi (nU+1))) | .inr q33=>some (⟨q33.F2,q33.Eo,q33.I1⟩:eN)))else none else some (⟨0,0,0⟩:eN))
def yK(K:Nat)(O:aE):Option (eN):=
 Ax ((if((O.ah.length:Nat):Int)<1 then some (.inr (⟨50,0,0⟩:eN))else(if((O.ah.length:Nat):Int)>32 then some (.inr (⟨50,0,0⟩:eN))else some (.inl ())))) (Ax ((pI K O K 0)) (Ax ((pJ K O K 0)) ((rH K O K 0))))
theorem J2(H:yK K O=some r0)(h:iJ z (L) w)(aP:zb L aT aI O.ah)(wu:bI L 5 gJ (some ⟨1,0,none⟩) yY) :
 nH 55 #[oV #[aW aT O.ah.length bt]] w z (CO r0) (L):=by
 unfold yK at H;refine aaq func55 rfl 62 rfl rfl [(0,oV #[aW aT O.ah.length bt])] ⟨rfl,bR⟩ λj _ r=>qq r<|ks<|kN h (#[aW aT O.ah.length bt]) 24 λb1 w h=>kN h (#[Z 0,Z 0,Z 0]) 81 λb2 w h=>G<|aL [U]<|λ_ r=>UC (wn rfl) rfl r (q:={target:=.fn (.func 87) #[pA b2 0],args:=#[]}) aZ<|?_;refine G<|?_;obtain⟨o4,H,Pd⟩:=FU H;refine λ_ r=>cW (β:=Unit) (λ_ a w=>.inl ()=o4/\∃j,cR [Nw b2] 62 (lk [(1,pA b1 0),(2,pA b2 0)] j) a/\Fit z (aD (fS b1 #[aW aT O.ah.length bt] 24::fS b2 #[Z 0,Z 0,Z 0] 81::L)) w) ?_ ?_
 ·refine qq r<|aL [U]<|kL (h.pick 1) 0<|ko [Z ((O.ah.length:Nat):Int),dm (((O.ah.length:Nat):Int)<1),dm (((O.ah.length:Nat):Int)<1)]<|qI H (λc5 H=>?_) λc5 H=>?_
  ·refine cg (dT c5) [15,16,17,18]<|oJ (dT c5) (vB true)<|G<|λ_ r=>fW r (b:=true) rfl<|qq r<|aL [U]<|kA h (fS b2 #[Z 50,Z 0,Z 0] 81) λw h=>bY<|tr<|λ_ r=>Bu r rfl aZ h<|?_;replace H:=wL H Pd;cases H;exact⟨rfl,h.se 2 []⟩
  refine cT (dF c5) [15] [pA b1 0]<|vz (dF c5) (h.pick 1) 0<|cT (dF c5) [17,18] [Z ((O.ah.length:Nat):Int),dm (((O.ah.length:Nat):Int)>32)]<|oz (dF c5) (dm (((O.ah.length:Nat):Int)>32))<|G<|dK H (λc6 H=>?_) λc6 H=>?_
  ·refine aL [U]<|kA h (fS b2 #[Z 50,Z 0,Z 0] 81) λw h=>bY<|tr<|λ_ r=>Bu r rfl aZ h<|?_;replace H:=wL H Pd;cases H;exact⟨rfl,h.se 2 []⟩
  refine fT<|?_;exact λ_ r=>⟨(),fV H,r.fj (h.se 2 [1,0])⟩
 clear h r;rintro _ a w ⟨rfl,j,r,h⟩;replace H:=FV Pd;obtain⟨o8,H,LL⟩:=FU H;refine cW (β:=Unit) (λ_ a w=>.inl ()=o8/\∃j,cR [Nw b2] 62 (lk [(1,pA b1 0),(2,pA b2 0)] j) a/\Fit z (aD (fS b1 #[aW aT O.ah.length bt] 24::fS b2 #[Z 0,Z 0,Z 0] 81::L)) w) ?_ ?_
 ·refine qq r<|aL [U]<|kL h 0<|ko [Z ((O.ah.length:Nat):Int),U]<|G<|wb<|λ_ r=>dr (β:=Nat) id (λm a w=>∃g9:Int,(pI K O m g9)=some o8/\∃j,cR [Nw b2] 62 (lk [(1,pA b1 0),(2,pA b2 0),(22,aW aT O.ah.length bt),(23,Z ((O.ah.length:Nat):Int)),(24,Z g9)] j) a/\Fit z (aD (fS b1 #[aW aT O.ah.length bt] 24::fS b2 #[Z 0,Z 0,Z 0] 81::L)) w) K ⟨0,H,r.fj h⟩<|?_;clear h r H;rintro k1 a w ⟨g9,H,j,r,h⟩;cases k1 with
  | zero=>exact absurd H (by simp[pI])
  | succ k1 =>
   rw[pI]at H;refine qq r<|aL [dm (g9<((O.ah.length:Nat):Int))]<|G<|wq<|dK H (λpe H=>?_) λpe H=>?_
   ·refine fT<|wq<|wb<|ks<|qg H λvH H=>bS<|kp (pA (dJ aT) (jf aT+g9.toNat*4)) (Dz 85 bt rfl rfl aP vH)<|yw (oV #[Z (J O.ah g9.toNat).aS,Z (J O.ah g9.toNat).dh,Z (J O.ah g9.toNat).bQ,aW ((aI g9.toNat).1) (J O.ah g9.toNat).ai.length ((aI g9.toNat).2)]) (cs:=[Z (J O.ah g9.toNat).aS,Z (J O.ah g9.toNat).dh,Z (J O.ah g9.toNat).bQ,aW ((aI g9.toNat).1) (J O.ah g9.toNat).ai.length ((aI g9.toNat).2)]) ⟨aP.cell vH (h.dn 2) 0 rfl,aP.cell vH (h.dn 2) 1 rfl,aP.cell vH (h.dn 2) 2 rfl,aP.cell vH (h.dn 2) 3 rfl,bR⟩<|?_;refine kN h (#[Z 0,Z 0,Z 0,aW none 0 0]) 85 λuY w h=>bS<|kA h (sK uY (J O.ah g9.toNat) ((aI g9.toNat).1) ((aI g9.toNat).2)) λw h=>G<|ks<|kM h<|fP H λwQ Hx H=>eW (Hr (bz:=((aI g9.toNat).1)) (bZ:=((aI g9.toNat).2)) (cE:=(bI.up 3 (aP.vT vH))) Hx h :) λw h=>ko [vB (!wQ)]<|G<|FZ H (λpT H=>?_) λpT H=>?_
    ·refine wk<|bn<|tn<|wl<|ko [Z (wi (g9+1)),Z (wi (g9+1))]<|G<|?_;exact λ_ r=>⟨_,⟨(wi (g9+1)),H,r.fj (h.se 3 [1,2])⟩,ie _⟩
    refine aL da<|qh h.m2 λh=>kA h (fS b2 #[Z 51,Z g9,Z 0] 81) λw h=>bY<|br<|tr<|tr<|br<|tr<|λ_ r=>Bu r rfl aZ h<|?_;replace H:=wL H LL;cases H;exact⟨rfl,h.se 3 []⟩
   refine wx<|te<|te<|bh<|tn<|?_;exact λ_ r=>⟨(),fV H,r.fj h⟩
 clear h r;rintro _ a w ⟨rfl,j,r,h⟩;replace H:=FV LL;obtain⟨QJ,H,Cj⟩:=FU H;refine cW (β:=Unit) (λ_ a w=>.inl ()=QJ/\∃j,cR [Nw b2] 62 (lk [(1,pA b1 0),(2,pA b2 0)] j) a/\Fit z (aD (fS b1 #[aW aT O.ah.length bt] 24::fS b2 #[Z 0,Z 0,Z 0] 81::L)) w) ?_ ?_
 ·refine qq r<|aL [U]<|kL h 0<|ko [Z ((O.ah.length:Nat):Int),U]<|G<|wb<|λ_ r=>dr (β:=Nat) id (λm a w=>∃tH:Int,(pJ K O m tH)=some QJ/\∃j,cR [Nw b2] 62 (lk [(1,pA b1 0),(2,pA b2 0),(36,aW aT O.ah.length bt),(37,Z ((O.ah.length:Nat):Int)),(38,Z tH)] j) a/\Fit z (aD (fS b1 #[aW aT O.ah.length bt] 24::fS b2 #[Z 0,Z 0,Z 0] 81::L)) w) K ⟨0,H,r.fj h⟩<|?_;clear h r H;rintro k2 a w ⟨tH,H,j,r,h⟩;cases k2 with
  | zero=>exact absurd H (by simp[pJ])
  | succ k2 =>
   rw[pJ]at H;refine qq r<|aL [dm (tH<((O.ah.length:Nat):Int))]<|G<|wq<|dK H (λsj H=>?_) λsj H=>?_
   ·refine fT<|wq<|wb<|ks<|qg H λlT H=>bS<|kp (pA (dJ aT) (jf aT+tH.toNat*4)) (Dz 85 bt rfl rfl aP lT)<|yw (oV #[Z (J O.ah tH.toNat).aS,Z (J O.ah tH.toNat).dh,Z (J O.ah tH.toNat).bQ,aW ((aI tH.toNat).1) (J O.ah tH.toNat).ai.length ((aI tH.toNat).2)]) (cs:=[Z (J O.ah tH.toNat).aS,Z (J O.ah tH.toNat).dh,Z (J O.ah tH.toNat).bQ,aW ((aI tH.toNat).1) (J O.ah tH.toNat).ai.length ((aI tH.toNat).2)]) ⟨aP.cell lT (h.dn 2) 0 rfl,aP.cell lT (h.dn 2) 1 rfl,aP.cell lT (h.dn 2) 2 rfl,aP.cell lT (h.dn 2) 3 rfl,bR⟩<|?_;refine kN h (#[Z 0,Z 0,Z 0,aW none 0 0]) 85 λb21 w h=>bS<|kA h (sK b21 (J O.ah tH.toNat) ((aI tH.toNat).1) ((aI tH.toNat).2)) λw h=>G<|wl<|bS<|kM h<|bS<|kL (h.pick 1) 0<|fP H λMN Ck H=>?_;cases MN with
    | inl q24 =>
     refine eW (Ch (v5:=aT) (xG:=bt) (Cu:=(yf.up 3 aP)) (dk:=((aI tH.toNat).1)) (dy:=((aI tH.toNat).2)) (eR:=(bI.up 3 (aP.vT lT))) (wu:=bI.up 3 wu) (WR:=aI) Ck h :) λw h=>kl<|bn<|tn<|wl<|ko [Z (wi (tH+1)),Z (wi (tH+1))]<|G<|?_;exact λ_ r=>⟨_,⟨(wi (tH+1)),H,r.fj (h.se 3 [1,2])⟩,ie _⟩
    | inr q25 =>
     have hc:=Ci (v5:=aT) (xG:=bt) (Cu:=(yf.up 3 aP)) (dk:=((aI tH.toNat).1)) (dy:=((aI tH.toNat).2)) (eR:=(bI.up 3 (aP.vT lT))) (wu:=bI.up 3 wu) (WR:=aI) (H:=Ck) (h:=h);intro _ r;refine Nq (wn rfl) r (f:=89) (args:=#[Z tH,oV #[Z (J O.ah tH.toNat).aS,Z (J O.ah tH.toNat).dh,Z (J O.ah tH.toNat).bQ,aW ((aI tH.toNat).1) (J O.ah tH.toNat).ai.length ((aI tH.toNat).2)],aW aT O.ah.length bt]) aZ hc ?_;clear hc h;rintro _ w ⟨rfl,h⟩;refine⟨_,rfl,?_⟩;refine ve<|oS<|oS<|ve<|oS<|qh h.m2 λh=>IW r rfl aZ h λw h=>?_;replace H:=wL H Cj;cases H;exact⟨rfl,h.se 3 []⟩
   refine wx<|te<|te<|bh<|tn<|?_;exact λ_ r=>⟨(),fV H,r.fj h⟩
 clear h r;rintro _ a w ⟨rfl,j,r,h⟩;replace H:=FV Cj;refine qq r<|wq<|aL [U]<|kL h 0<|ko [Z ((O.ah.length:Nat):Int),U]<|G<|wb<|λ_ r=>dr (β:=Nat) id (λm a w=>∃nU:Int,(rH K O m nU)=some r0/\∃j,cR [Nw b2] 62 (lk [(2,pA b2 0),(50,aW aT O.ah.length bt),(51,Z ((O.ah.length:Nat):Int)),(52,Z nU)] j) a/\Fit z (aD (fS b2 #[Z 0,Z 0,Z 0] 81::L)) w) K ⟨0,H,r.fj (h.se 2 [1])⟩<|?_;clear h r H;rintro k3 a w ⟨nU,H,j,r,h⟩;cases k3 with
 | zero=>exact absurd H (by simp[rH])
 | succ k3 =>
  rw[rH]at H;refine qq r<|aL [dm (nU<((O.ah.length:Nat):Int))]<|G<|wq<|dK H (λsX H=>?_) λsX H=>?_
  ·refine fT<|wq<|wb<|ks<|qg H λBk H=>bS<|kp (pA (dJ aT) (jf aT+nU.toNat*4)) (Dz 85 bt rfl rfl aP Bk)<|yw (oV #[Z (J O.ah nU.toNat).aS,Z (J O.ah nU.toNat).dh,Z (J O.ah nU.toNat).bQ,aW ((aI nU.toNat).1) (J O.ah nU.toNat).ai.length ((aI nU.toNat).2)]) (cs:=[Z (J O.ah nU.toNat).aS,Z (J O.ah nU.toNat).dh,Z (J O.ah nU.toNat).bQ,aW ((aI nU.toNat).1) (J O.ah nU.toNat).ai.length ((aI nU.toNat).2)]) ⟨aP.cell Bk (h.dn 1) 0 rfl,aP.cell Bk (h.dn 1) 1 rfl,aP.cell Bk (h.dn 1) 2 rfl,aP.cell Bk (h.dn 1) 3 rfl,bR⟩<|?_;refine kN h (#[Z 0,Z 0,Z 0,aW none 0 0]) 85 λb29 w h=>bS<|kA h (sK b29 (J O.ah nU.toNat) ((aI nU.toNat).1) ((aI nU.toNat).2)) λw h=>G<|wl<|bS<|kM h<|fP H λCQ WO H=>?_;cases CQ with
   | inl q32 =>
    refine eW (Ja (dk:=((aI nU.toNat).1)) (dy:=((aI nU.toNat).2)) (eR:=(bI.up 2 (aP.vT Bk))) (wu:=bI.up 2 wu) WO h :) λw h=>kl<|bn<|tn<|wl<|ko [Z (wi (nU+1)),Z (wi (nU+1))]<|G<|?_;exact λ_ r=>⟨_,⟨(wi (nU+1)),H,r.fj (h.se 2 [1])⟩,ie _⟩
   | inr q33 =>
    have hc:=Jb (dk:=((aI nU.toNat).1)) (dy:=((aI nU.toNat).2)) (eR:=(bI.up 2 (aP.vT Bk))) (wu:=bI.up 2 wu) (H:=WO) (h:=h);intro _ r;refine Nq (wn rfl) r (f:=90) (args:=#[Z nU,oV #[Z (J O.ah nU.toNat).aS,Z (J O.ah nU.toNat).dh,Z (J O.ah nU.toNat).bQ,aW ((aI nU.toNat).1) (J O.ah nU.toNat).ai.length ((aI nU.toNat).2)]]) aZ hc ?_;clear hc h;rintro _ w ⟨rfl,h⟩;refine⟨_,rfl,?_⟩;refine ve<|oS<|oS<|ve<|oS<|qh h.m1 λh=>IW r rfl aZ h λw h=>?_;cases H;exact⟨rfl,h.se 2 []⟩
  refine wx<|te<|te<|bh<|tn<|aL [U]<|kA h (fS b2 #[Z 0,Z 0,Z 0] 81) λw h=>bY<|λ_ r=>Bu r rfl aZ h<|?_;cases H;exact⟨rfl,h.se 1 []⟩
def sn(O:Int):Option (Bool):=
 (if O>=1 then some (decide (O<=64))else some false)
theorem zB(H:sn O=some r0)(h:iJ z (L) w) :
 nH 56 #[Z O] w z (vB r0) (L):=by
 unfold sn at H;refine ke func56 9 rfl λj=>gP<|aL [U,dm (O>=1),dm (O>=1)]<|qI H (λc1 H=>?_) λc1 H=>?_
 ·refine cT (dT c1) [6,7] [Z O,dm (O<=64)]<|oJ (dT c1) (dm (O<=64))<|ko [dm (O<=64)]<|bY<|?_;cases H;exact fU h
 refine cg (dF c1) [6,7]<|oz (dF c1) (vB false)<|bS<|bY<|?_;cases H;exact fU h
def sq(O:dZ):Option (Bool):=
 (if O.cx>=1 then(if O.cx<=4096 then(if(1:Int)<=O.dP then(if O.dP<=O.jQ then some (decide (O.jQ<=4096))else some false)else some false)else some false)else some false)
theorem zC(H:sq O=some r0)(h:iJ z (L) w) :
 nH 57 #[kI O] w z (vB r0) (L):=by
 unfold sq at H;refine ke func57 28 rfl λj=>ks<|kN h (lV O) 27 λb1 w h=>bS<|G<|aL [U]<|kL h 0<|ko [dm (O.cx>=1),dm (O.cx>=1)]<|qI H (λc2 H=>?_) λc2 H=>?_
 ·refine cT (dT c2) [7] [pA b1 0]<|vz (dT c2) h 0<|cT (dT c2) [9] [dm (O.cx<=4096)]<|oJ (dT c2) (dm (O.cx<=4096))<|ko [dm (O.cx<=4096)]<|qI H (λc3 H=>?_) λc3 H=>?_
  ·refine cT (dT c3) [12] [pA b1 1]<|vz (dT c3) h 1<|cT (dT c3) [14] [dm ((1:Int)<=O.dP)]<|oJ (dT c3) (dm ((1:Int)<=O.dP))<|ko [dm ((1:Int)<=O.dP)]<|qI H (λc4 H=>?_) λc4 H=>?_
   ·refine cT (dT c4) [17] [pA b1 1]<|vz (dT c4) h 1<|cT (dT c4) [19] [pA b1 2]<|vz (dT c4) h 2<|cT (dT c4) [21] [dm (O.dP<=O.jQ)]<|oJ (dT c4) (dm (O.dP<=O.jQ))<|ko [dm (O.dP<=O.jQ)]<|qI H (λc5 H=>?_) λc5 H=>?_
    ·refine cT (dT c5) [24] [pA b1 2]<|vz (dT c5) h 2<|cT (dT c5) [26] [dm (O.jQ<=4096)]<|oJ (dT c5) (dm (O.jQ<=4096))<|ko [dm (O.jQ<=4096)]<|bY<|?_;cases H;exact fU (h.se 1 [])
    refine cg (dF c5) [24,25,26]<|oz (dF c5) (vB false)<|bS<|bY<|?_;cases H;exact fU (h.se 1 [])
   refine cg (dF c4) [17,18,19,20,21]<|oz (dF c4) (vB false)<|bS<|cg (rfl:false=false) [24,25,26]<|ko da<|bY<|?_;cases H;exact fU (h.se 1 [])
  refine cg (dF c3) [12,13,14]<|oz (dF c3) (vB false)<|bS<|cg (rfl:false=false) [17,18,19,20,21]<|ko da<|cg (rfl:false=false) [24,25,26]<|ko da<|bY<|?_;cases H;exact fU (h.se 1 [])
 refine cg (dF c2) [7,8,9]<|oz (dF c2) (vB false)<|bS<|cg (rfl:false=false) [12,13,14]<|ko da<|cg (rfl:false=false) [17,18,19,20,21]<|ko da<|cg (rfl:false=false) [24,25,26]<|ko da<|bY<|?_;cases H;exact fU (h.se 1 [])
def nX(K:Nat)(O:aE)(Y:List Int)(p2:Int)(p3:dZ):Option (Int):=
 dX (yK K O) (λr3=>(if r3.xd=0 then if bJ (0:Int) O.ah.length then(if((Y.length:Nat):Int)=(J O.ah 0).aS then dX (sn p2) (λr8=>(if r8=true then dX (sq p3) (λvC=>(if vC=true then some 0 else some 111))else some 110))else some 61)else none else some 60))
theorem wR(H:nX K O Y p2 p3=some r0)(h:iJ z (L) w)(aP:zb L aT aI O.ah)(F8:bI L 1 aK ER Y)(wu:bI L 5 gJ (some ⟨1,0,none⟩) yY) :
 nH 36 #[oV #[aW aT O.ah.length bt],aW ER Y.length GV,Z p2,kI p3] w z (Z r0) (L):=by
 unfold nX at H;refine ke func36 31 rfl λj=>ks<|kN h (#[aW aT O.ah.length bt]) 24 λb1 w h=>kN h (lV p3) 27 λb2 w h=>bS<|G<|wq<|wb<|ks<|yw (oV #[aW aT O.ah.length bt]) (cs:=[aW aT O.ah.length bt]) ⟨(h.pick 1).cell 0 rfl,bR⟩<|?_;refine fP H λr3 e4 H=>eW (J2 (aT:=aT) (bt:=bt) (aP:=(yf.up 2 aP)) (wu:=bI.up 2 wu) (aI:=aI) e4 h :) λw h=>ko [U,vB (r3.xd != 0),vB (r3.xd != 0)]<|G<|rV H (λc5 H=>?_) λc5 H=>?_
 ·refine aL [U,Z ((Y.length:Nat):Int),U]<|kL (h.pick 1) 0<|qg H λc6 H=>kp (pA (dJ aT) (jf aT+0*4)) (Dz 85 bt rfl rfl aP c6)<|bS<|zz (Z (J O.ah 0).aS) (aP.cell c6 (h.dn 2) 0 rfl)<|?_;refine ko [vB (((Y.length:Nat):Int) != (J O.ah 0).aS),vB (((Y.length:Nat):Int) != (J O.ah 0).aS)]<|G<|rV H (λc7 H=>?_) λc7 H=>?_
  ·refine ks<|fP H λr8 e9 H=>bS<|eW (zB e9 h :) λw h=>ko [vB (!r8),vB (!r8)]<|G<|FZ H (λpe H=>?_) λpe H=>?_
   ·refine ks<|kM h<|fP H λvC Fi H=>eW (zC Fi h :) λw h=>ko [vB (!vC),vB (!vC)]<|G<|FZ H (λyI H=>?_) λyI H=>?_
    ·refine wk<|bn<|tn<|gP<|wr<|?_;cases H;exact fU (h.se 2 [])
    refine gP<|wr<|br<|tr<|?_;cases H;exact fU (h.se 2 [])
   refine gP<|wr<|br<|tr<|?_;cases H;exact fU (h.se 2 [])
  refine gP<|wr<|br<|tr<|?_;cases H;exact fU (h.se 2 [])
 refine gP<|wr<|br<|tr<|?_;cases H;exact fU (h.se 2 [])
def nh(O:af)(Y:Int):Option (Int):=
 (if Y<1 then some 21 else(if Y>(wi (O.nl-O.fo))then some 22 else some 0))
theorem BE(H:nh O Y=some r0)(h:iJ z (gD B0 O ju jy jA lU L) w) :
 nH 211 #[pA B0 0,Z Y] w z (Z r0) (gD B0 O ju jy jA lU L):=by
 unfold nh at H;refine ke func211 22 rfl λj=>gP<|wq<|aL [U,dm (Y<1)]<|G<|dK H (λc5 H=>?_) λc5 H=>?_
 ·refine gP<|wr<|tr<|?_;cases H;exact fU h
 refine fT<|wq<|wq<|mJ [(B0,0,[Z O.nl]),(B0,1,[Z O.fo])] [1,5,6,9,10] 15 h (λh=>⟨⟨h.cell 0 rfl,bR⟩,⟨h.cell 1 rfl,bR⟩,bR⟩) λw h hd =>lW hd 12 7 [([0],pA B0 0),([1,2],vB false)]<|λ_ r=>FG hd 11 3 rfl (nL r (c:=false) rfl) r (Z Y)<|?_;refine λ_ r=>FG hd 10 4 rfl (nL r (c:=false) rfl) r (pA B0 0)<|?_;refine λ_ r=>FG hd 9 5 rfl (nL r (c:=false) rfl) r (pA B0 0)<|?_;refine λ_ r=>FG hd 8 6 rfl (nL r (c:=false) rfl) r (pA B0 0)<|?_;refine λ_ r=>FG hd 7 8 rfl (nL r (c:=false) rfl) r (pA B0 0)<|?_;refine λ_ r=>FG hd 6 9 rfl (nL r (c:=false) rfl) r (pA B0 0)<|?_;refine λ_ r=>FG hd 5 10 rfl (nL r (c:=false) rfl) r (pA B0 1)<|?_;refine λ_ r=>elx hd 0 4 7 r (nL r (c:=false) rfl) rfl rfl<|?_;refine λ_ r=>elx hd 1 3 11 r (nL r (c:=false) rfl) rfl rfl<|?_;refine λ_ r=>FG hd 2 12 rfl (nL r (c:=false) rfl) r (Z (wi (O.nl-O.fo)))<|?_;refine λ_ r=>FG hd 1 13 rfl (nL r (c:=false) rfl) r (dm (Y>(wi (O.nl-O.fo))))<|?_;refine mg hd 0 [(14,21,dm (Y>(wi (O.nl-O.fo))))]<|mM<|tn<|dK H (λc6 H=>?_) λc6 H=>?_
 ·refine gP<|wr<|tr<|?_;cases H;exact fU h
 refine fT<|gP<|wr<|?_;cases H;exact fU h
def rh(O:af)(Y:Int):Option (Int×af):=
 some (O.fo,{O with fo:=wi (O.fo+Y)})
theorem CX{q0:af}(H:rh O Y=some (r0,q0))(h:iJ z (gD B0 O ju jy jA lU L) w) :
 yZ 212 #[pA B0 0,Z Y] w z (Z r0) λx1 x2 x3 x4=>gD B0 q0 x1 x2 x3 x4 L:=by
 unfold rh at H;refine ke func212 19 rfl λj=>gP<|aL kJ<|kL h 1<|bS<|G<|aL kJ<|kL h 1<|ko [U,Z (wi (O.fo+Y)),U,U]<|kS h 1 (fS B0 #[Z O.nl,Z (wi (O.fo+Y)),aW ju O.cell.length jy,aW jA O.log.length lU,Z O.wB,vB O.watched] 78) λw h=>G<|aL da<|bY<|?_;cases H;exact JL ju jy jA lU h
def fY(O:af)(Y:Int)(p2:Int)(p3:Int)(p4:Int)(p5:Bool):Option (af):=
 (if O.watched=true then if(O.log.length+1)*48<=140737488355328 then some ({O with log:=O.log++[(⟨O.wB,Y,p2,p3,p4,p5⟩:aU)]})else none else some O)
abbrev XM (B:Nat) (S:af) (a2:fB) (c2:Nat) (a3:fB) (c3:Nat) (q:Nat):bl:=pts B (.cells #[Z S.nl,Z S.fo,.slice a2 S.cell.length c2,.slice a3 q c3,Z S.wB,vB S.watched] 78)
theorem ni{q0:af}(H:fY O Y p2 p3 p4 p5=some q0)(h:iJ z (gD B0 O ju jy jA lU L) w) :
 yZ 210 #[pA B0 0,Z Y,Z p2,Z p3,Z p4,vB p5] w z (.tuple #[]) λx1 x2 x3 x4=>gD B0 q0 x1 x2 x3 x4 L:=by
 unfold fY at H;refine ke func210 35 rfl λj=>aL kJ<|kL h 5<|G<|EN H (λc5 H=>?_) λc5 H=>?_
 ·refine qg H λc9 H=>mJ [(B0,3,[aW jA O.log.length lU]),(B0,4,[Z O.wB])] [2,3,6,7,14] 20 h (λh=>⟨⟨h.cell 3 rfl,bR⟩,⟨h.cell 4 rfl,bR⟩,bR⟩) λw h hd =>lW hd 8 16 [([0,1,2,5,6],pA B0 0),([3],pA B0 3),([7],pA B0 4),([9],Z Y),([10],Z p2),([11],Z p3),([12],Z p4),([13],vB p5)]<|eI hd 0 7 4 rfl<|eI hd 1 6 8 rfl<|mg hd 5 [(14,30,oV #[Z O.wB,Z Y,Z p2,Z p3,Z p4,vB p5])]<|lB 15 rfl<|kV h (#[Z O.wB,Z Y,Z p2,Z p3,Z p4,vB p5]) 269 λb6 w h=>G<|λ_ r=>xE<|lj 16 rfl<|qh h.m3 λh=>jU (n0:=O.log.length) (c:=1) (bytes:=48) (wn rfl) rfl rfl r rfl aZ aZ uH (E:=269) (xs:=O.log) aZ aZ h (news:=[(⟨O.wB,Y,p2,p3,p4,p5⟩:aU)]) (m:=1) rfl ((h.pick 1).news rfl) c9 rfl λlC mj w _ h r=>qq r<|G<|mu<|iF 2 17 rfl (pA B0 0)<|iF 1 18 rfl (pA B0 3)<|lB 19 rfl<|qh h.m2 λh=>kS h 3 (XM B0 O ju jy lC mj ((O.log++[(⟨O.wB,Y,p2,p3,p4,p5⟩:aU)]).length)) λw h=>G<|mu<|mM<|?_;cases H;exact xv4 ju jy lC mj (h.se 4 [0,3,1])
 refine wk<|?_;cases H;exact xv4 ju jy jA lU h
def fN(O:af)(Y:Int):Option (Int×Int×af):=
 Qr (some ()) (dX (nh O Y) (λr7=>(if r7=0 then uE (rh O Y) (λzQ CY=>if 0<=Y/\(CY.cell.length+Y.toNat)*8<=140737488355328 then dX (fY ({CY with cell:=CY.cell++List.replicate Y.toNat (0:Int)}) 4 zQ Y 0 true) (λgA=>some (zQ,0,gA))else none)else some (0,r7,O))))
abbrev HW (B:Nat) (S:af) (a2:fB) (c2:Nat) (a3:fB) (c3:Nat) (q:Nat):bl:=pts B (.cells #[Z S.nl,Z S.fo,.slice a2 q c2,.slice a3 S.log.length c3,Z S.wB,vB S.watched] 78)
theorem mV{q0:af}(H:fN O Y=some (r0,r1,q0))(h:iJ z (gD B0 O ju jy jA lU L) w) :
 yZ 207 #[pA B0 0,Z Y] w z (.tuple #[Z r0,Z r1]) λx1 x2 x3 x4=>gD B0 q0 x1 x2 x3 x4 L:=by
 unfold fN at H;refine ke func207 37 rfl λj=>aL da<|G<|gP<|qd0 H λo6 H hK5=>λ_ r=>cW (β:=Unit) (λ_ a w=>()=o6/\∃j,jY 37 (lk [(0,pA B0 0),(1,Z Y),(6,pA B0 0)] j) a/\Fit z (aD (gD B0 O ju jy jA lU L)) w) ?_ ?_
 ·refine qq r<|aL da<|G<|λ_ r=>fW r (b:=true) rfl<|qq r<|wl<|ko yj<|G<|?_;exact λ_ r=>⟨(),fV H,r.fj h⟩
 clear h r;rintro _ a w ⟨rfl,j,r,h⟩;replace H:=kk0 hK5;refine qq r<|wq<|ks<|fP H λr7 e8 H=>ko da<|eW (BE e8 h :) λw h=>bS<|G<|aL [U,vB (r7 != 0)]<|G<|rV H (λc9 H=>?_) λc9 H=>?_
 ·refine fT<|ks<|xT H λzQ CY Fi H=>ko da<|lH (CX Fi h :) λxH yz CZ DH w h=>bS<|G<|aL yj<|kL h 2<|bS<|qh h.m1 λh=>qg H λsj H=>λ_ r=>R4 (kx:=.i64) (n0:=CY.cell.length) (i:=Y) (m:=Y.toNat) (bytes:=8) (zc:=#[Z 0]) (0:Int) (wn rfl) rfl rfl r rfl aZ aZ (Int.toNat_of_nonneg sj.1).symm aJ (E:=2) (xs:=CY.cell) aZ aZ aZ rfl h sj.2 rfl λGd Pn w _ h r=>qq r<|ko da<|qh h.m1 λh=>kS h 2 (HW B0 CY Gd Pn CZ DH ((CY.cell++List.replicate Y.toNat (0:Int)).length)) λw h=>G<|ks<|fP H λgA LM H=>ko kJ<|lH (ni LM h :) λnY wz DI Gc w h=>G<|aL kJ<|bY<|?_;cases H;exact Cv nY wz DI Gc h
 refine aL kJ<|bY<|tr<|?_;cases H;exact Cv ju jy jA lU h
def sY(O:Int):Option (Int):=
 (if O<1 then some 0 else(if O>4096 then some 0 else some (wi ((1:Int)+(wi (O*10))))))
theorem xL(H:sY O=some r0)(h:iJ z (L) w) :
 nH 81 #[Z O] w z (Z r0) (L):=by
 unfold sY at H;refine ke func81 12 rfl λj=>gP<|wq<|aL [U,dm (O<1),dm (O<1)]<|qI H (λc1 H=>?_) λc1 H=>?_
 ·refine cg (dT c1) [6,7]<|oJ (dT c1) (vB true)<|G<|λ_ r=>fW r (b:=true) rfl<|qq r<|gP<|wr<|tr<|?_;cases H;exact fU h
 refine cT (dF c1) [6,7] [Z O,dm (O>4096)]<|oz (dF c1) (dm (O>4096))<|G<|dK H (λc2 H=>?_) λc2 H=>?_
 ·refine gP<|wr<|tr<|?_;cases H;exact fU h
 refine fT<|aL [U,Z (wi (O*10)),Z (wi ((1:Int)+(wi (O*10)))),Z (wi ((1:Int)+(wi (O*10))))]<|bY<|?_;cases H;exact fU h
def gK(O:bp)(Y:Int):Option (Int):=
 some (wi ((wi (O.kY+1))+(wi (Y*10))))
theorem lJ(H:gK O Y=some r0)(h:iJ z (L) w) :
 nH 91 #[fD O,Z Y] w z (Z r0) (L):=by
 unfold gK at H;refine ke func91 11 rfl λj=>ks<|kN h (hU O) 90 λb1 w h=>bS<|G<|aL [U]<|kL h 0<|ko [Z (wi (O.kY+1)),U,Z (wi (Y*10)),Z (wi ((wi (O.kY+1))+(wi (Y*10)))),Z (wi ((wi (O.kY+1))+(wi (Y*10))))]<|bY<|?_;cases H;exact fU (h.se 1 [])
def su(O:af)(Y:Int):Option (Bool):=
 (if Y>=0 then some (decide (Y<O.fo))else some false)
theorem DJ(H:su O Y=some r0)(h:iJ z (gD B0 O ju jy jA lU L) w) :
 nH 213 #[pA B0 0,Z Y] w z (vB r0) (gD B0 O ju jy jA lU L):=by
 unfold su at H;refine ke func213 15 rfl λj=>gP<|aL [U,dm (Y>=0),dm (Y>=0)]<|qI H (λc5 H=>?_) λc5 H=>?_
 ·refine cT (dT c5) [8,9,10,11] [Z Y,pA B0 0,pA B0 0,pA B0 1]<|vz (dT c5) h 1<|cT (dT c5) [13] [dm (Y<O.fo)]<|oJ (dT c5) (dm (Y<O.fo))<|ko [dm (Y<O.fo)]<|bY<|?_;cases H;exact fU h
 refine cg (dF c5) [8,9,10,11,12,13]<|oz (dF c5) (vB false)<|bS<|bY<|?_;cases H;exact fU h
def iv(O:af)(Y:Int):Option (Bool):=
 dX (su O Y) (λr5=>some (!r5))
theorem pC(H:iv O Y=some r0)(h:iJ z (gD B0 O ju jy jA lU L) w) :
 nH 209 #[pA B0 0,Z Y] w z (vB r0) (gD B0 O ju jy jA lU L):=by
 unfold iv at H;refine ke func209 15 rfl λj=>gP<|ks<|fP H λr5 e6 H=>ko kJ<|cT (rfl:false=false) [8,9,10,11] [pA B0 0,pA B0 0,pA B0 0,Z Y]<|xg0 (rfl:false=false) (DJ e6 h :) λw h=>cT (rfl:false=false) [13] [vB (!r5)]<|ko [vB (!r5),vB (!r5)]<|bY<|?_;cases H;exact fU h
def dW(O:af)(Y:Int)(p2:Int):Option (Int×af):=
 dX (iv O Y) (λr5=>(if r5=true then some (20,O)else if bJ Y O.cell.length then dX (fY ({O with cell:=O.cell.set Y.toNat p2}) 1 Y p2 0 true) (λOR=>some (0,OR))else none))
theorem _root_.Go.Proofs.YtaiffafelihaaaaGreatDoor.SL.Fit.Jc{α:Type}{e sz cc n:Nat}{enc:α->List Value}{ca:fB}{l:List α}{z w:World}{X:List bl}{B:Nat}{S:af}{a2:fB}{c2:Nat}{a3:fB}{c3:Nat}(h:Fit z (aD (rowOf e sz enc (.slice ca n cc) l::HW B S a2 c2 a3 c3 n::X)) w):Fit z (aD (rowOf e sz enc (.slice ca l.length cc) l::HW B S a2 c2 a3 c3 l.length::X)) w:=h.Lt (HW B S a2 c2 a3 c3)
theorem fu{q0:af}(H:dW O Y p2=some (r0,q0))(h:iJ z (gD B0 O ju jy jA lU L) w) :
 yZ 208 #[pA B0 0,Z Y,Z p2] w z (Z r0) λx1 x2 x3 x4=>gD B0 q0 x1 x2 x3 x4 L:=by
 unfold dW at H;refine ke func208 21 rfl λj=>gP<|wq<|ks<|fP H λr5 e6 H=>ko da<|eW (pC e6 h :) λw h=>G<|EN H (λc7 H=>?_) λc7 H=>?_
 ·refine gP<|wr<|tr<|?_;cases H;exact JL ju jy jA lU h
 refine fT<|aL kJ<|kL h 2<|qg H λc8 H=>ko da<|ki (h.pick 1) c8<|qh h.m1 λh=>λ_ r=>Lr (wn rfl) r aJ h Y.toNat 0 (Z p2) (J O.cell Y.toNat) p2 (bj c8) λw h=>qq r<|G<|aL kJ<|?_;replace h:=h.Jc;refine fP H λOR XE H=>qh h.m2.m1.m2 λh=>lH (ni XE h :) λBF xH yz CZ w h=>G<|gP<|wr<|?_;cases H;exact JL BF xH yz CZ h
def jI(K:Nat)(Y:Int)(vC:Int):Nat->af->Int->Option (bp×Int×af)
 | 0,_,_=>none
 | k1+1,Fo,nU=>(if nU<Y then dX (gK (⟨vC,Y⟩:bp) nU) (λAJ=>uE (dW Fo AJ 1) (λCQ QK=>(if CQ=0 then(jI K Y vC k1 QK (wi (nU+1)))else some ((⟨0,0⟩:bp),CQ,QK))))else some ((⟨vC,Y⟩:bp),0,Fo))
def pQ(K:Nat)(O:af)(Y:Int):Option (bp×Int×af):=
 dX (sY Y) (λr6=>(if r6=0 then some ((⟨0,0⟩:bp),3,O)else dX (sY Y) (λr9=>rN (fN O r9) (λvC pH JO=>(if pH=0 then(jI K Y vC K JO 0)else some ((⟨0,0⟩:bp),pH,JO))))))
theorem DK{q0:af}(H:pQ K O Y=some (r0,r1,q0))(h:iJ z (gD B0 O ju jy jA lU L) w) :
 yZ 58 #[if_ 33 (pA B0 0),Z Y] w z (.tuple #[fD r0,Z r1]) λx1 x2 x3 x4=>gD B0 q0 x1 x2 x3 x4 L:=by
 unfold pQ at H;refine ke func58 53 rfl λj=>ks<|kN h (#[Z 0,Z 0]) 90 λb5 w h=>bS<|G<|wq<|aL da<|G<|λ_ r=>jw r (b:=false) rfl<|qq r<|fT<|wq<|ks<|fP H λr6 e7 H=>bS<|eW (xL e7 h :) λw h=>ko [vB (r6==0)]<|G<|dK H (λc8 H=>?_) λc8 H=>?_
 ·refine aL [U]<|kA h (fS b5 #[Z 0,Z 0] 90) λw h=>bS<|bY<|tr<|λ_ r=>rG [Z 0,Z 0] (Z 3) rfl r (h.held 0 rfl)<|?_;cases H;exact⟨ju,jy,jA,lU,rfl,h.se 4 [1,2,3]⟩
 refine fT<|wq<|fP H λr9 Hy H=>vg H λvC pH JO Hx H=>mJ [] [] 12 h (λ_=>trivial) λw h hd =>lW hd 7 19 [([0],if_ 33 (pA B0 0)),([1],Z Y),([3,4],.func (.method "Reserve") #[if_ 33 (pA B0 0)] #[]),([5],if_ 33 (pA B0 0))]<|lB 2 rfl<|eW (xL Hy h :) λw h=>G<|λ_ r=>xE<|lj 6 rfl<|qh h.m3.m3.m3 λh=>qq r<|lH (mV Hx h :) λCZ DH LQ Jd w h=>G<|mu<|iF 4 7 rfl (.tuple #[Z vC,Z pH])<|iF 3 8 rfl (Z vC)<|iF 2 9 rfl (Z pH)<|iF 1 10 rfl (Z vC)<|iF 0 11 rfl (Z pH)<|mM<|tn<|wq<|aL [U,vB (pH != 0)]<|G<|rV H (λsj H=>?_) λsj H=>?_
 ·refine fT<|aL kJ<|kN h (#[Z 0,Z 0]) 90 λPo w h=>kA h (fS Po #[Z vC,Z Y] 90) λw h=>G<|wq<|aL da<|G<|wb<|λ_ r=>dr (β:=Nat) id (λm a w=>∃NM:fB,∃NN:Nat,∃vt:fB,∃yl:Nat,∃Fo:af,∃nU:Int,(jI K Y vC m Fo nU)=some (r0,r1,q0)/\∃j,jY 53 (lk [(0,if_ 33 (pA B0 0)),(4,pA b5 0),(8,pA Po 0),(35,Z Y),(36,Z nU)] j) a/\Fit z (aD (gD B0 Fo NM NN vt yl (fS b5 #[Z 0,Z 0] 90::fS Po #[Z vC,Z Y] 90::L))) w) K ⟨CZ,DH,LQ,Jd,JO,0,H,r.fj (h.se 5 [1,2,3,4,0])⟩<|?_;clear h r H;rintro k1 a w ⟨NM,NN,vt,yl,Fo,nU,H,j,r,h⟩;cases k1 with
  | zero=>exact absurd H (by simp[jI])
  | succ k1 =>
   rw[jI]at H;refine qq r<|aL [dm (nU<Y)]<|G<|wq<|dK H (λsX H=>?_) λsX H=>?_
   ·refine fT<|wq<|wb<|aL da<|G<|wq<|fP H λAJ WQ H=>xT H λCQ QK Pe H=>mJ [(Po,0,[Z vC,Z Y])] [3,4,5] 9 h (λh=>⟨((h.pick 4).held 0 rfl),bR⟩) λw h hd =>lW hd 4 39 [([0],if_ 33 (pA B0 0)),([2],Z nU),([4,5],.func (.method "Store") #[if_ 33 (pA B0 0)] #[]),([6],if_ 33 (pA B0 0))]<|yh hd 0 3 1 rfl rfl<|lB 3 rfl<|eW (lJ WQ h :) λw h=>G<|wo ⟨((h.pick 4).held 0 rfl),bR⟩ λhd =>lB 7 rfl<|lH (fu Pe h :) λx33 x34 x35 HX w h=>G<|mu<|iF 0 8 rfl (Z CQ)<|mM<|tn<|aL [U,vB (CQ != 0)]<|G<|rV H (λK2 H=>?_) λK2 H=>?_
    ·refine wk<|bn<|tn<|wl<|ko [Z (wi (nU+1)),Z (wi (nU+1))]<|G<|?_;exact λ_ r=>⟨_,⟨x33,x34,x35,HX,QK,(wi (nU+1)),H,r.fj h⟩,ie _⟩
    refine aL da<|qh h.m3 λh=>kA h (fS b5 #[Z 0,Z 0] 90) λw h=>bS<|bY<|br<|tr<|tr<|br<|tr<|λ_ r=>rG [Z 0,Z 0] (Z CQ) rfl r (h.held 0 rfl)<|?_;cases H;exact⟨x33,x34,x35,HX,rfl,h.se 5 [1,2,3]⟩
   refine wx<|te<|te<|bh<|tn<|ks<|kM (h.pick 4)<|qh h.m3 λh=>kA h (fS b5 #[Z vC,Z Y] 90) λw h=>bS<|bY<|λ_ r=>rG [Z vC,Z Y] (Z 0) rfl r (h.held 0 rfl)<|?_;cases H;exact⟨NM,NN,vt,yl,rfl,h.se 5 [1,2,3]⟩
 refine aL da<|qh h.m3 λh=>kA h (fS b5 #[Z 0,Z 0] 90) λw h=>bS<|bY<|tr<|λ_ r=>rG [Z 0,Z 0] (Z pH) rfl r (h.held 0 rfl)<|?_;cases H;exact⟨CZ,DH,LQ,Jd,rfl,h.se 4 [1,2,3]⟩
def pY(O:Int):Option (Int):=
 (if O<1 then some 0 else(if O>64 then some 0 else some (wi ((2:Int)+O))))
theorem uZ(H:pY O=some r0)(h:iJ z (L) w) :
 nH 82 #[Z O] w z (Z r0) (L):=by
 unfold pY at H;refine ke func82 11 rfl λj=>gP<|wq<|aL [U,dm (O<1),dm (O<1)]<|qI H (λc1 H=>?_) λc1 H=>?_
 ·refine cg (dT c1) [6,7]<|oJ (dT c1) (vB true)<|G<|λ_ r=>fW r (b:=true) rfl<|qq r<|gP<|wr<|tr<|?_;cases H;exact fU h
 refine cT (dF c1) [6,7] [Z O,dm (O>64)]<|oz (dF c1) (dm (O>64))<|G<|dK H (λc2 H=>?_) λc2 H=>?_
 ·refine gP<|wr<|tr<|?_;cases H;exact fU h
 refine fT<|aL [U,Z (wi ((2:Int)+O)),Z (wi ((2:Int)+O))]<|bY<|?_;cases H;exact fU h
def sv(O:af)(Y:Int):Option (gw×Int×af):=
 dX (pY Y) (λr6=>(if r6=0 then some ((⟨0,0⟩:gw),3,O)else dX (pY Y) (λr9=>rN (fN O r9) (λvC pH JO=>(if pH=0 then some ((⟨vC,Y⟩:gw),0,JO)else some ((⟨0,0⟩:gw),pH,JO))))))
theorem Fp{q0:af}(H:sv O Y=some (r0,r1,q0))(h:iJ z (gD B0 O ju jy jA lU L) w) :
 yZ 59 #[if_ 33 (pA B0 0),Z Y] w z (.tuple #[rE r0,Z r1]) λx1 x2 x3 x4=>gD B0 q0 x1 x2 x3 x4 L:=by
 unfold sv at H;refine ke func59 32 rfl λj=>ks<|kN h (#[Z 0,Z 0]) 92 λb5 w h=>bS<|G<|wq<|aL da<|G<|λ_ r=>jw r (b:=false) rfl<|qq r<|fT<|wq<|ks<|fP H λr6 e7 H=>bS<|eW (uZ e7 h :) λw h=>ko [vB (r6==0)]<|G<|dK H (λc8 H=>?_) λc8 H=>?_
 ·refine aL [U]<|kA h (fS b5 #[Z 0,Z 0] 92) λw h=>bS<|bY<|tr<|λ_ r=>rG [Z 0,Z 0] (Z 3) rfl r (h.held 0 rfl)<|?_;cases H;exact⟨ju,jy,jA,lU,rfl,h.se 4 [1,2,3]⟩
 refine fT<|wq<|fP H λr9 Hy H=>vg H λvC pH JO Hx H=>mJ [] [] 12 h (λ_=>trivial) λw h hd =>lW hd 7 16 [([0],if_ 33 (pA B0 0)),([1],Z Y),([3,4],.func (.method "Reserve") #[if_ 33 (pA B0 0)] #[]),([5],if_ 33 (pA B0 0))]<|lB 2 rfl<|eW (uZ Hy h :) λw h=>G<|λ_ r=>xE<|lj 6 rfl<|qh h.m3.m3.m3 λh=>qq r<|lH (mV Hx h :) λCZ DH LQ Jd w h=>G<|mu<|iF 4 7 rfl (.tuple #[Z vC,Z pH])<|iF 3 8 rfl (Z vC)<|iF 2 9 rfl (Z pH)<|iF 1 10 rfl (Z vC)<|iF 0 11 rfl (Z pH)<|mM<|tn<|wq<|aL [U,vB (pH != 0)]<|G<|rV H (λsj H=>?_) λsj H=>?_
 ·refine fT<|aL kJ<|qh h.m3 λh=>kA h (fS b5 #[Z vC,Z Y] 92) λw h=>bS<|bY<|λ_ r=>rG [Z vC,Z Y] (Z 0) rfl r (h.held 0 rfl)<|?_;cases H;exact⟨CZ,DH,LQ,Jd,rfl,h.se 4 [1,2,3]⟩
 refine aL da<|qh h.m3 λh=>kA h (fS b5 #[Z 0,Z 0] 92) λw h=>bS<|bY<|tr<|λ_ r=>rG [Z 0,Z 0] (Z pH) rfl r (h.held 0 rfl)<|?_;cases H;exact⟨CZ,DH,LQ,Jd,rfl,h.se 4 [1,2,3]⟩
def uq(O:Int)(Y:Int):Option (Bool):=
 (if(1:Int)<=O then(if O<=Y then some (decide (Y<=4096))else some false)else some false)
theorem B9(H:uq O Y=some r0)(h:iJ z (L) w) :
 nH 92 #[Z O,Z Y] w z (vB r0) (L):=by
 unfold uq at H;refine ke func92 16 rfl λj=>gP<|aL [U,dm ((1:Int)<=O),dm ((1:Int)<=O)]<|qI H (λc1 H=>?_) λc1 H=>?_
 ·refine cT (dT c1) [8,9,10] [Z O,Z Y,dm (O<=Y)]<|oJ (dT c1) (dm (O<=Y))<|ko [dm (O<=Y)]<|qI H (λc2 H=>?_) λc2 H=>?_
  ·refine cT (dT c2) [13,14] [Z Y,dm (Y<=4096)]<|oJ (dT c2) (dm (Y<=4096))<|ko [dm (Y<=4096)]<|bY<|?_;cases H;exact fU h
  refine cg (dF c2) [13,14]<|oz (dF c2) (vB false)<|bS<|bY<|?_;cases H;exact fU h
 refine cg (dF c1) [8,9,10]<|oz (dF c1) (vB false)<|bS<|cg (rfl:false=false) [13,14]<|ko da<|bY<|?_;cases H;exact fU h
def qQ(O:af)(Y:Int)(p2:Int):Option (cw×Int×af):=
 dX (uq Y p2) (λr6=>(if r6=true then rN (fN O (wi ((4:Int)+Y))) (λr9 zQ CY=>(if zQ=0 then uE (dW CY (wi (r9+2)) (wi (r9+3))) (λmT vN=>(if mT=0 then uE (dW vN (wi (r9+3)) Y) (λEu QM=>(if Eu=0 then some ((⟨r9,p2⟩:cw),0,QM)else some ((⟨0,0⟩:cw),Eu,QM)))else some ((⟨0,0⟩:cw),mT,vN)))else some ((⟨0,0⟩:cw),zQ,CY)))else some ((⟨0,0⟩:cw),30,O)))
end
open Go SL GX
section
variable {K:Nat}
theorem Cl{i:Nat}(h:i<4611686018427387904):wi ((i:Int)+1)=((i+1:Nat):Int):=by rw[fh I];omega
theorem Fq{α:Type}[Inhabited α]{n i:Nat}{x:α}(h:i<n):J (List.replicate n x) i=x:=by
 unfold J;rw[List.getD_eq_getElem?_getD,List.getElem?_replicate,bg h];rfl
theorem tR{α:Type}[Inhabited α]{l:List α}{i:Nat}(h:i<l.length):J l i∈l:=by
 unfold J;rw[List.getD_eq_getElem?_getD,List.getElem?_eq_getElem h];exact List.getElem_mem h
theorem LR{α β:Type}[Inhabited α][Inhabited β](f:α->β){l:List α}{i:Nat}(h:i<l.length):J (l.map f) i=f (J l i):=by
 unfold J;rw[List.getD_eq_getElem?_getD,List.getD_eq_getElem?_getD,List.getElem?_map,List.getElem?_eq_getElem h];rfl
abbrev Pt:=Int×Int
def nx(f:aB)(a:Int):List Int:=
 if (J f.ai a.toNat).aG=3 then [(J f.ai a.toNat).A]else if(J f.ai a.toNat).aG=9 then []else if(J f.ai a.toNat).aG=4 then [a+1,(J f.ai a.toNat).B]else [a+1]
def Pp(f:aB)(sl a st:Int):Int:=
 if (J f.ai a.toNat).aG=5/\(J f.ai a.toNat).A=sl then 2 else if(J f.ai a.toNat).aG=6/\st=2 then 4 else st
def nw(V:List Pt)(s:Int):List Int->List Pt
 | []=>[]
 | n::ns=>if(n,s)∈V then nw V s ns else(n,s)::nw (V++[(n,s)]) s ns
def QN(f:aB)(sl:Int):Nat->List Pt->Nat->List Pt
 | 0,V,_=>V
 | d+1,V,k=>if k<V.length then QN f sl d (V++nw V (Pp f sl (J V k).1 (J V k).2) (nx f (J V k).1)) (k+1)else V
structure Pq(f:aB):Prop where
 lo:1<=f.ai.length
 hi:f.ai.length<=512
 nx:∀a:Int,0<=a->a<f.ai.length->∀n∈nx f a,0<=n/\n<f.ai.length
 kind:∀a:Int,0<=a->a<f.ai.length->0<=(J f.ai a.toNat).aG/\(J f.ai a.toNat).aG<10
def Sn(s:Int):Prop:=s=1∨s=2∨s=4
structure NS(f:aB)(V:List Pt):Prop where
 WU:∀x∈V,0<=x.1/\x.1<f.ai.length/\Sn x.2
 nd:V.Nodup
theorem AM:∀(n:Nat) (l:List Nat),l.Nodup->(∀x∈l,x<n)->l.length<=n
 | 0,l,_,h=>by cases l with | nil=>simp | cons a l=>exact absurd (h a (by simp)) I
 | n+1,l,hd,h=>by
  by_cases e:n∈l
  ·have:=AM n (l.erase n) (hd.erase n) (λx hx=>by
    have h1:=h x (List.mem_of_mem_erase hx);have:x≠n:=λe=>by subst e;exact(List.Nodup.not_mem_erase hd) hx
    omega)
   rw[List.length_erase_of_mem e]at this;omega
  ·have:=AM n l hd (λx hx=>by
    have h1:=h x hx;have:x≠n:=λe'=>by subst e';exact e hx
    omega)
   omega
def cd(x:Pt):Nat:=x.1.toNat*3+(if x.2=1 then 0 else if x.2=2 then 1 else 2)
theorem NS.len{f:aB}{V:List Pt}(h:NS f V):V.length<=3*f.ai.length:=by
 have:=AM (3*f.ai.length) (V.map cd) (by
  refine List.pairwise_map.2 (h.nd.imp_of_mem λ{x y} hx hy hxy e=>hxy ?_);obtain⟨a1,a2,a3⟩:=h.WU x hx;obtain⟨b1,b2,b3⟩:=h.WU y hy;obtain⟨x1,x2⟩:=x;obtain⟨y1,y2⟩:=y;unfold cd at e;simp only at *;rcases a3 with rfl | rfl | rfl<;>rcases b3 with rfl | rfl | rfl<;>simp at e<;>first | omega | (obtain rfl:x1=y1:=I);rfl) (λn hn=>by
  obtain⟨x,hx,rfl⟩:=List.mem_map.1 hn;obtain⟨a1,a2,a3⟩:=h.WU x hx;unfold cd;rcases a3 with h | h | h<;>simp only[h]<;>simp<;>omega)
 simpa using this
theorem LS{f:aB}{s:Int}(hs:Sn s):∀(ns:List Int) (V:List Pt),NS f V->(∀n∈ns,0<=n/\n<f.ai.length)->NS f (V++nw V s ns)/\∀n∈ns,(n,s)∈V++nw V s ns
 | [],V,h,_=>by simp[nw];exact h
 | n::ns,V,h,hn=>by
  unfold nw;split
  ·rename_i e;obtain⟨a,b⟩:=LS hs ns V h (λm hm=>hn m (MW _ hm));refine⟨a,λm hm => ?_⟩;rcases List.mem_cons.1 hm with rfl | hm
   ·exact List.mem_append_left _ e
   ·exact b m hm
  ·rename_i e;have h':NS f (V++[(n,s)]):=⟨λx hx=>by
    rcases List.mem_append.1 hx with hx | hx
    ·exact h.WU x hx
    ·rw[List.mem_singleton.1 hx];exact⟨(hn n (by simp)).1,(hn n (by simp)).2,hs⟩,List.nodup_append.2 ⟨h.nd,by simp,λx hx y hy e'=>by rw[List.mem_singleton.1 hy]at e';subst e';exact e hx⟩⟩
   obtain⟨a,b⟩:=LS hs ns (V++[(n,s)]) h' (λm hm=>hn m (MW _ hm));rw[rK,KJ]at a b;refine⟨a,λm hm => ?_⟩;rcases List.mem_cons.1 hm with rfl | hm
   ·simp
   ·exact b m hm
def Ex(f:aB)(sl:Int)(V:List Pt)(k:Nat):Prop:=∀j,j<k->j<V.length->∀n∈nx f (J V j).1,(n,Pp f sl (J V j).1 (J V j).2)∈V
theorem aaw{f:aB}{sl a s:Int}(h:Sn s):Sn (Pp f sl a s):=by
 unfold Pp;split
 ·exact .inr (.inl rfl)
 ·split
  ·exact .inr (.inr rfl)
  ·exact h
theorem Ge{f:aB}(hf:Pq f){sl:Int}{V:List Pt}{k:Nat}(h:NS f V)(hk:k<V.length)(hc:Ex f sl V k) :
 NS f (V++nw V (Pp f sl (J V k).1 (J V k).2) (nx f (J V k).1))/\Ex f sl (V++nw V (Pp f sl (J V k).1 (J V k).2) (nx f (J V k).1)) (k+1):=by
 obtain⟨a1,a2,a3⟩:=h.WU _ (tR hk);obtain⟨a,b⟩:=LS (aaw (f:=f) (sl:=sl) (a:=(J V k).1) a3) (nx f (J V k).1) V h (hf.nx _ a1 a2);refine⟨a,λj hj hl n hn => ?_⟩;have hjV:j<V.length:=by omega
 rw[tV hjV]at hn⊢;by_cases e:j=k
 ·subst e;exact b n hn
 ·exact List.mem_append_left _ (hc j I hjV n hn)
theorem U0{f:aB}(hf:Pq f){sl:Int}:∀(d k:Nat) (V:List Pt),k+d=3*f.ai.length->NS f V->Ex f sl V k->k<=V.length->
 NS f (QN f sl d V k)/\Ex f sl (QN f sl d V k) (QN f sl d V k).length/\(∀x∈V,x∈QN f sl d V k)
 | 0,k,V,hd,h,hc,hk=>by
  unfold QN;have:=h.len;obtain rfl:k=V.length:=by omega
  exact⟨h,hc,λ_ h=>h⟩
 | d+1,k,V,hd,h,hc,hk=>by
  unfold QN;split
  ·rename_i e;obtain⟨a,b⟩:=Ge hf h e hc;obtain⟨r1,r2,r3⟩:=U0 hf d (k+1) _ I a b (by rw[jM];omega);exact⟨r1,r2,λx hx=>r3 x (List.mem_append_left _ hx)⟩
  ·rename_i e;obtain rfl:k=V.length:=by omega
   exact⟨h,hc,λ_ h=>h⟩
def wt(V:List Pt)(a:Int):Int:=(if(a,1)∈V then 1 else 0)+(if(a,2)∈V then 2 else 0)+(if(a,4)∈V then 4 else 0)
structure Zp(f:aB)(V:List Pt)(met:List Int):Prop where
 len:met.length=f.ai.length
 val:∀a,a<f.ai.length->J met a=wt V a
theorem ab8:∀(a b c:Bool) (s:Int),Sn s->((iu ((if a then 1 else 0)+(if b then 2 else 0)+(if c then 4 else 0)) s=0)↔(s=1/\a=false)∨(s=2/\b=false)∨(s=4/\c=false)):=by
 intro a b c s hs;rcases hs with rfl | rfl | rfl<;>cases a<;>cases b<;>cases c<;>decide
theorem HY{V:List Pt}{a s:Int}(hs:Sn s):iu (wt V a) s=0↔(a,s)∉V:=by
 have:=ab8 (decide ((a,1)∈V)) (decide ((a,2)∈V)) (decide ((a,4)∈V)) s hs;simp only[CA,decide_eq_false_iff_not]at this;unfold wt;rw[this];rcases hs with rfl | rfl | rfl<;>simp
theorem aax{V:List Pt}{a:Int}:0<=wt V a/\wt V a<=7:=by
 unfold wt;split<;>split<;>split<;>omega
theorem aay{V:List Pt}{n s:Int}(hs:Sn s)(hn:(n,s)∉V)(a:Int):wt (V++[(n,s)]) a=if a=n then wt V a+s else wt V a:=by
 unfold wt;by_cases e:a=n
 ·subst e;rw[bg rfl];rcases hs with rfl | rfl | rfl<;>simp[hn]<;>omega
 ·rw[cQ e];simp[e]
theorem Zp.add{f:aB}{V:List Pt}{met:List Int}{n s:Int}(h:Zp f V met)(hs:Sn s)(hn:(n,s)∉V)(h0:0<=n)(h1:n<f.ai.length) :
 Zp f (V++[(n,s)]) (met.set n.toNat (wi (J met n.toNat+s))):=by
 refine⟨by rw[gU];exact h.len,λa ha => ?_⟩;rw[aay hs hn];by_cases e:n.toNat=a
 ·subst e;rw[vx (by rw[h.len];omega),rD,h.val _ ha];have:=aax (V:=V) (a:=((n.toNat:Nat):Int));rw[fh];rcases hs with rfl | rfl | rfl<;>omega
 ·rw[Av e,ez,h.val a ha]
theorem Pr{f:aB}{s:Int}(hs:Sn s){ns:List Int}(R8:∀n∈ns,0<=n/\n<f.ai.length)(hlen:f.ai.length<=512)(Zq:ns.length<=2):∀(d k i:Nat) (V:List Pt) (met:List Int),i+d=ns.length->d<k->NS f V->Zp f V met->
 ∃met',gM K s ns k met (V.map (·.1)) (V.map (·.2)) (i:Int)=some (met',(V++nw V s (ns.drop i)).map (·.1),(V++nw V s (ns.drop i)).map (·.2))/\Zp f (V++nw V s (ns.drop i)) met'
 | d,k,i,V,met,hd,hk,hV,hm=>by
  obtain⟨k,rfl⟩ :∃m,k=m+1:=⟨k-1,I⟩;rw[gM];have hL:=hV.len;by_cases hi:i<ns.length
  ·obtain⟨d,rfl⟩ :∃m,d=m+1:=⟨d-1,I⟩;have hdr:ns.drop i=J ns i::ns.drop (i+1):=by
    rw[Qm hi];unfold J;rw[List.getD_eq_getElem?_getD,List.getElem?_eq_getElem hi];rfl
   obtain⟨n0,n1⟩:=R8 _ (tR hi);rw[rD,bg ⟨I,I⟩,di,bg ⟨n0,by rw[hm.len];exact n1⟩,hm.val _ I,show(((J ns i).toNat:Nat):Int)=J ns i by omega,Cl I,hdr];rw[nw];by_cases e:(J ns i,s)∈V
   ·rw[cQ (λh=>(HY hs).1 h e),bg e];exact Pr hs R8 hlen Zq d k (i+1) V met I I hV hm
   ·rw[bg ((HY hs).2 e),cQ e,bg (by rw[DZ];omega),bg (by rw[DZ];omega)];have hV':NS f (V++[(J ns i,s)]):=⟨λx hx=>by
     rcases List.mem_append.1 hx with hx | hx
     ·exact hV.WU x hx
     ·rw[List.mem_singleton.1 hx];exact⟨n0,n1,hs⟩,List.nodup_append.2 ⟨hV.nd,by simp,λx hx y hy e'=>by rw[List.mem_singleton.1 hy]at e';subst e';exact e hx⟩⟩
    have hm':=hm.add hs e n0 n1;rw[hm.val _ I,show(((J ns i).toNat:Nat):Int)=J ns i by omega]at hm';obtain⟨met',r1,r2⟩:=Pr hs R8 hlen Zq d k (i+1) _ _ I I hV' hm';refine⟨met',?_,?_⟩
    ·rw[Ij,Ij,rK,KJ]at r1;exact r1
    ·rw[rK,KJ]at r2;exact r2
  ·rw[ez,zn I];simp only[nw,B3];exact⟨met,rfl,hm⟩
theorem NT{f:aB}{sl a s:Int}:q8 (J f.ai a.toNat) sl s=some (Pp f sl a s)/\xk (J f.ai a.toNat) sl s=some (Pp f sl a s):=by
 unfold q8 xk Pp;by_cases h1:(J f.ai a.toNat).aG=5
 ·by_cases h2:(J f.ai a.toNat).A=sl
  ·simp[h1,h2]
  ·simp[h1,h2]
 ·by_cases h2:(J f.ai a.toNat).aG=6
  ·by_cases h3:s=2<;>simp[h1,h2,h3]
  ·simp[h1,h2]
theorem U1{f:aB}(hlen:f.ai.length<=512){a:Int}(h0:0<=a)(h1:a<f.ai.length):q9 f a=some (nx f a):=by
 unfold q9 nx;rw[bg ⟨h0,h1⟩,fh (x:=a+1) I];split
 ·rfl
 ·split
  ·rfl
  ·split<;>rfl
theorem LX{f:aB}{a:Int}:(nx f a).length<=2:=by
 unfold nx;split
 ·simp
 split
 ·simp
 split<;>simp
theorem U2{f:aB}(hf:Pq f){sl:Int}(hK:3000<K):∀(d j k:Nat) (V:List Pt) (met:List Int),j+d=3*f.ai.length->d<k->j<=V.length->NS f V->Ex f sl V j->Zp f V met->
 ∃met',iA K f sl k met (V.map (·.1)) (V.map (·.2)) (j:Int)=some met'/\Zp f (QN f sl d V j) met'
 | d,j,k,V,met,hd,hk,hj,hV,hc,hm=>by
  obtain⟨k,rfl⟩ :∃m,k=m+1:=⟨k-1,I⟩;rw[iA];have hL:=hV.len;have LY:=hf.hi;by_cases hi:j<V.length
  ·obtain⟨d,rfl⟩ :∃m,d=m+1:=⟨d-1,I⟩;obtain⟨a1,a2,a3⟩:=hV.WU _ (tR hi);rw[bg (by rw[DZ];omega),bg ⟨I,by rw[DZ];omega⟩,di,LR _ hi,LR _ hi,bg ⟨a1,a2⟩,bg ⟨I,by rw[DZ];omega⟩,NT.1,ax,U1 LY a1 a2,ax,Cl I];obtain⟨met',r1,r2⟩:=Pr (K:=K) (f:=f) (s:=Pp f sl (J V j).1 (J V j).2) (aaw a3) (ns:=nx f (J V j).1) (hf.nx _ a1 a2) LY LX (nx f (J V j).1).length K 0 V met I (by have:=LX (f:=f) (a:=(J V j).1);omega) hV hm;rw[qz]at r1;rw[r1,dA,QN,bg hi];obtain⟨b1,b2⟩:=Ge hf hV hi hc;exact U2 hf hK d (j+1) k _ _ I I (by rw[jM];omega) b1 b2 r2
  ·rw[cQ (by rw[DZ];omega)];refine⟨met,rfl,?_⟩;cases d with
   | zero=>exact hm
   | succ d=>rw[QN,cQ hi];exact hm
def reach(f:aB)(sl:Int):List Pt:=QN f sl (3*f.ai.length) [(0,1)] 0
theorem aaz{f:aB}(hf:Pq f):NS f [(0,1)]:=⟨λx hx=>by rw[List.mem_singleton.1 hx];exact⟨gB,by have:=hf.lo;omega,.inl rfl⟩,by simp⟩
theorem Je{f:aB}(hf:Pq f)(sl:Int):NS f (reach f sl)/\Ex f sl (reach f sl) (reach f sl).length/\(0,1)∈reach f sl:=by
 obtain⟨a,b,c⟩:=U0 hf (sl:=sl) (3*f.ai.length) 0 [(0,1)] I (aaz hf) (λj hj=>I) (by simp);exact⟨a,b,c _ (by simp)⟩
theorem Ps{f:aB}(hf:Pq f)(sl:Int)(hK:3000<K) :∃met,mU K f sl=some met/\Zp f (reach f sl) met:=by
 unfold mU;have h1:=hf.lo;have h2:=hf.hi;rw[bg ⟨I,I⟩,bg ⟨gB,by rw[od];omega⟩];exact U2 hf hK (3*f.ai.length) 0 K [(0,1)] _ I I (by simp) (aaz hf) (λj hj=>I) ⟨by simp,λa ha=>by
  by_cases e:a=0
  ·subst e;rw[vx (by simpa using ha)];simp[wt]
  ·rw[Av I,Fq ha];unfold wt;rw[cQ (by simp;omega),cQ (by simp),cQ (by simp)];rfl⟩
end
section
variable {K:Nat}
abbrev pt(x:Pt):aV:=⟨x.1,x.2⟩
theorem aaA{x y:Pt}(h:pt x=pt y):x=y:=by
 obtain⟨a,b⟩:=x;obtain⟨c,d⟩:=y;simp only[pt,aV.mk.injEq]at h;rw[h.1,h.2]
theorem NU{β:Type}:∀(l:List (aV×β)) (k:aV),(za l k).isSome=true↔k∈l.map (·.1)
 | [],k=>by simp[za]
 | (a,b)::l,k=>by
  unfold za;by_cases e:k=a
  ·simp[e]
  ·rw[cQ e,NU l k];simp[e]
theorem mem_keys{V:List Pt}{m:List (aV×aV)}(h:m.map (·.1)=V.map pt)(x:Pt):(za m (pt x)).isSome=true↔x∈V:=by
 rw[NU,h,List.mem_map];exact⟨λ⟨y,hy,e⟩=>aaA e▸ hy,λhx=>⟨x,hx,rfl⟩⟩
theorem LZ{f:aB}{s:Int}(hs:Sn s){ns:List Int}(l8:List aV)(R8:∀n∈ns,0<=n/\n<f.ai.length)(hlen:f.ai.length<=512)(Zq:ns.length<=2):∀(d k i:Nat) (V:List Pt) (m:List (aV×aV)) (agb:List aV),i+d=ns.length->d<k->NS f V->m.map (·.1)=V.map pt->agb.length<=V.length->
 ∃m',jH K l8 s ns k m agb (i:Int)=some (m',agb++(nw V s (ns.drop i)).map pt)/\m'.map (·.1)=(V++nw V s (ns.drop i)).map pt
 | d,k,i,V,m,agb,hd,hk,hV,hm,hW=>by
  obtain⟨k,rfl⟩ :∃m,k=m+1:=⟨k-1,I⟩;rw[jH];have hL:=hV.len;by_cases hi:i<ns.length
  ·obtain⟨d,rfl⟩ :∃m,d=m+1:=⟨d-1,I⟩;have hdr:ns.drop i=J ns i::ns.drop (i+1):=by
    rw[Qm hi];unfold J;rw[List.getD_eq_getElem?_getD,List.getElem?_eq_getElem hi];rfl
   obtain⟨n0,n1⟩:=R8 _ (tR hi);rw[rD,bg ⟨I,I⟩,di,Cl I,hdr,nw];by_cases e:(J ns i,s)∈V
   ·rw[bg ((mem_keys hm (J ns i,s)).2 e),bg e];exact LZ hs l8 R8 hlen Zq d k (i+1) V m agb I I hV hm hW
   ·have e0:¬(za m (⟨J ns i,s⟩:aV)).isSome=true:=λh=>e ((mem_keys hm (J ns i,s)).1 h);have e1:za m (⟨J ns i,s⟩:aV)=none:=by
     cases h:za m (⟨J ns i,s⟩:aV)with
     | none=>rfl
     | some x=>rw[h]at e0;exact absurd rfl e0
    rw[cQ e0,cQ e,bg e1,rD];have hV':NS f (V++[(J ns i,s)]):=⟨λx hx=>by
     rcases List.mem_append.1 hx with hx | hx
     ·exact hV.WU x hx
     ·rw[List.mem_singleton.1 hx];exact⟨n0,n1,hs⟩,List.nodup_append.2 ⟨hV.nd,by simp,λx hx y hy e'=>by rw[List.mem_singleton.1 hy]at e';subst e';exact e hx⟩⟩
    obtain⟨m',r1,r2⟩:=LZ hs l8 R8 hlen Zq d k (i+1) (V++[(J ns i,s)]) (m++[((⟨J ns i,s⟩:aV),J l8 0)]) (agb++[(⟨J ns i,s⟩:aV)]) I I hV' (by rw[Ij,Ij,hm];rfl) (by simp;omega);refine⟨m',?_,?_⟩
    ·rw[rK,KJ]at r1;exact r1
    ·rw[rK,KJ]at r2;exact r2
  ·rw[ez,zn I];simp only[nw,B3,Cy];exact⟨m,rfl,hm⟩
theorem aea{k:Int}(h0:0<=k)(h1:k<10):(J yY k.toNat).next = !(decide (k=3)||decide (k=9)):=by
 rcases(by omega:k=0∨k=1∨k=2∨k=3∨k=4∨k=5∨k=6∨k=7∨k=8∨k=9)with rfl | rfl | rfl | rfl | rfl | rfl | rfl | rfl | rfl | rfl<;>rfl
theorem So{f:aB}(hf:Pq f){a:Int}(h0:0<=a)(h1:a<f.ai.length):xl f a=some (nx f a):=by
 have LY:=hf.hi;obtain⟨k0,k1⟩:=hf.kind a h0 h1;have hn:=hf.nx a h0 h1;unfold xl;rw[bg ⟨h0,h1⟩,bg ⟨k0,by exact k1⟩,aea k0 k1,fh (x:=a+1) I];unfold nx at hn⊢;by_cases e3:(J f.ai a.toNat).aG=3
 ·simp[e3]
 ·by_cases e9:(J f.ai a.toNat).aG=9
  ·simp[e9]
  ·by_cases e4:(J f.ai a.toNat).aG=4
   ·have:a+1<f.ai.length:=by rw[cQ e3,cQ e9,bg e4]at hn;exact(hn (a+1) (by simp)).2
    simp[e4,this]
   ·have:a+1<f.ai.length:=by rw[cQ e3,cQ e9,cQ e4]at hn;exact(hn (a+1) (by simp)).2
    simp[e3,e4,e9,this]
theorem QO{f:aB}(hf:Pq f){sl:Int}(hK:3000<K):∀(d j k:Nat) (V:List Pt) (m:List (aV×aV)),j+d=3*f.ai.length->d<k->j<=V.length->NS f V->Ex f sl V j->m.map (·.1)=V.map pt->
 ∃m',lz K f sl k m ((V.drop j).map pt)=some m'/\m'.map (·.1)=(QN f sl d V j).map pt
 | d,j,k,V,m,hd,hk,hj,hV,hc,hm=>by
  obtain⟨k,rfl⟩ :∃m,k=m+1:=⟨k-1,I⟩;rw[lz];have hL:=hV.len;have LY:=hf.hi;by_cases hi:j<V.length
  ·obtain⟨d,rfl⟩ :∃m,d=m+1:=⟨d-1,I⟩;obtain⟨a1,a2,a3⟩:=hV.WU _ (tR hi);have hl:((V.drop j).map pt).length=V.length-j:=by simp
   have h0:J ((V.drop j).map pt) 0=pt (J V j):=by
    rw[LR _ (by simp;omega)];congr 1;unfold J;simp[List.getD_eq_getElem?_getD]
   have h1:((V.drop j).map pt).drop 1=(V.drop (j+1)).map pt:=by rw[<-List.map_drop,List.drop_drop]
   rw[bg (by rw[hl];omega),bg ⟨gB,by rw[hl];omega⟩,bg ⟨gB,by rw[hl];omega⟩,bg (by rw[hl];omega),h0,h1,wU,ax,cQ gB,bg ⟨a1,a2⟩,NT.2,ax,So hf a1 a2,ax];obtain⟨m',r1,r2⟩:=LZ (K:=K) (f:=f) (s:=Pp f sl (J V j).1 (J V j).2) (aaw a3) (ns:=nx f (J V j).1) ((V.drop j).map pt) (hf.nx _ a1 a2) LY LX (nx f (J V j).1).length K 0 V m ((V.drop (j+1)).map pt) I (by have:=LX (f:=f) (a:=(J V j).1);omega) hV hm (by simp);rw[qz]at r1;rw[r1,fQ,QN,bg hi,nS];rw[nS]at r2;obtain⟨b1,b2⟩:=Ge hf hV hi hc;rw[show(V.drop (j+1)).map pt++(nw V (Pp f sl (J V j).1 (J V j).2) (nx f (J V j).1)).map pt=((V++nw V (Pp f sl (J V j).1 (J V j).2) (nx f (J V j).1)).drop (j+1)).map pt by rw[KE I,Ij]];exact QO hf hK d (j+1) k _ m' I I (by rw[jM];omega) b1 b2 r2
  ·have:(V.drop j).map pt=[]:=by rw[zn I];rfl
   rw[this,cQ (by simp)];refine⟨m,rfl,?_⟩;cases d with
   | zero=>exact hm
   | succ d=>rw[QN,cQ hi];exact hm
theorem XN{f:aB}(hf:Pq f)(sl:Int)(hK:3000<K) :∃m,sk K f sl=some m/\m.map (·.1)=(reach f sl).map pt:=by
 unfold sk;have h2:=hf.hi;exact QO hf hK (3*f.ai.length) 0 K [(0,1)] _ I I (by simp) (aaz hf) (λj hj=>I) rfl
structure QS(f:aB)(R:List (List Int))(n:Nat):Prop where
 len:R.length=f.ai.length
 wid:∀a,a<f.ai.length->(J R a).length=f.bQ.toNat
 val:∀a,a<f.ai.length->∀c,c<n->c<f.bQ.toNat->J (J R a) c=wt (reach f c) a
 zero:∀a,a<f.ai.length->∀c,n<=c->c<f.bQ.toNat->J (J R a) c=0
theorem U3{f:aB}{R Q:List (List Int)}{n:Nat}(h:QS f R n)(k:QS f Q n):R=Q:=by
 have ext:∀{α:Type} [Inhabited α] (x y:List α),x.length=y.length->(∀i,i<x.length->J x i=J y i)->x=y:=by
  intro α _ x y hl he;refine List.ext_getElem hl λi h1 h2 => ?_;have:=he i h1;unfold J at this;rw[List.getD_eq_getElem?_getD,List.getD_eq_getElem?_getD,List.getElem?_eq_getElem h1,List.getElem?_eq_getElem h2]at this;exact this
 refine ext R Q (by rw[h.len,k.len]) λi hi => ?_;rw[h.len]at hi;exact ext _ _ (by rw[h.wid i hi,k.wid i hi]) λc hc=>by
  rw[h.wid i hi]at hc;by_cases e:c<n
  ·rw[h.val i hi c e hc,k.val i hi c e hc]
  ·rw[h.zero i hi c I hc,k.zero i hi c I hc]
end
section
variable {K:Nat}
theorem rL{α:Type}[Inhabited α]{l:List α}{i k:Nat}{x:α}(h:i<l.length):J (l.set i x) k=if k=i then x else J l k:=by
 by_cases e:k=i
 ·subst e;rw[vx h,bg rfl]
 ·rw[Av (λe'=>e e'.symm),cQ e]
def Zero(f:aB)(R:List (List Int))(i:Nat):Prop:=R.length=f.ai.length/\∀a,a<i->J R a=List.replicate f.bQ.toNat 0
theorem QT{f:aB}(hf:Pq f)(h0:0<=f.bQ)(h8:f.bQ<=8):∀(d k i:Nat) (R:List (List Int)),i+d=f.ai.length->d<k->Zero f R i->
 ∃R',lp K f k R (i:Int)=some R'/\pV K f k R (i:Int)=some R'/\Zero f R' f.ai.length
 | d,k,i,R,hd,hk,hz=>by
  obtain⟨k,rfl⟩ :∃m,k=m+1:=⟨k-1,I⟩;rw[lp,pV];have h2:=hf.hi;by_cases hi:i<f.ai.length
  ·obtain⟨d,rfl⟩ :∃m,d=m+1:=⟨d-1,I⟩;rw[bg (by rw[od];omega),bg ⟨h0,I⟩,bg ⟨I,by rw[hz.1];omega⟩,bg (by rw[od];omega),bg ⟨h0,I⟩,bg ⟨I,by rw[hz.1];omega⟩,di,Cl I];exact QT hf h0 h8 d k (i+1) _ I I ⟨by rw[gU];exact hz.1,λa ha=>by
    rw[rL (by rw[hz.1];exact hi)];split
    ·rfl
    ·exact hz.2 a I⟩
  ·rw[cQ (by rw[od];omega),cQ (by rw[od];omega)];obtain rfl:i=f.ai.length:=by omega
   exact⟨R,rfl,rfl,hz⟩
structure U4(f:aB)(R R':List (List Int))(c:Nat)(i:Nat)(v:Nat->Int):Prop where
 len:R'.length=f.ai.length
 wid:∀a,a<f.ai.length->(J R' a).length=f.bQ.toNat
 lo:∀a,a<i->a<f.ai.length->J (J R' a) c=v a
 hi:∀a,i<=a->a<f.ai.length->J (J R' a) c=J (J R a) c
 WV:∀a,a<f.ai.length->∀b,b≠c->J (J R' a) b=J (J R a) b
theorem U4.tab{f:aB}{R R':List (List Int)}{c:Nat}(h:QS f R c)(k:U4 f R R' c f.ai.length (λa=>wt (reach f c) a)):QS f R' (c+1):=by
 refine⟨k.len,k.wid,λa ha b hb hs => ?_,λa ha b hb hs => ?_⟩
 ·by_cases e:b=c
  ·subst e;exact k.lo a ha ha
  ·rw[k.WV a ha b e];exact h.val a ha b I hs
 ·rw[k.WV a ha b I];exact h.zero a ha b I hs
theorem QU{f:aB}(hf:Pq f){c:Nat}(hc:c<f.bQ.toNat){met:List Int}(hm:met.length=f.ai.length){R:List (List Int)}:∀(d k i:Nat) (Q:List (List Int)),i+d=f.ai.length->d<k->U4 f R Q c i (λa=>J met a)->
 ∃R',lq K f (c:Int) met k Q (i:Int)=some R'/\U4 f R R' c f.ai.length (λa=>J met a)
 | d,k,i,Q,hd,hk,hz=>by
  obtain⟨k,rfl⟩ :∃m,k=m+1:=⟨k-1,I⟩;rw[lq];have h2:=hf.hi;by_cases hi:i<f.ai.length
  ·obtain⟨d,rfl⟩ :∃m,d=m+1:=⟨d-1,I⟩;have hl:=hz.len;have hw:=hz.wid i hi;rw[bg (by rw[od];omega),bg ⟨I,I⟩,bg ⟨I,I⟩,di,bg ⟨I,by rw[hw];omega⟩,di,Cl I];refine QU hf hc hm d k (i+1) _ I I ⟨by rw[gU];exact hl,λa ha => ?_,λa ha hb => ?_,λa ha hb => ?_,λa ha b hb => ?_⟩
   ·rw[rL I];split
    ·rw[gU];exact hw
    ·exact hz.wid a ha
   ·rw[rL I];split
    ·rename_i e;subst e;rw[vx I]
    ·exact hz.lo a I hb
   ·rw[rL I,ez];exact hz.hi a I hb
   ·rw[rL I];split
    ·rename_i e;subst e;rw[Av (λe=>hb e.symm)];exact hz.WV a ha b hb
    ·exact hz.WV a ha b hb
  ·rw[cQ (by rw[od];omega)];obtain rfl:i=f.ai.length:=by omega
   exact⟨Q,rfl,hz⟩
theorem U4.zero{f:aB}{R:List (List Int)}{c n:Nat}(h:QS f R n)(v:Nat->Int):U4 f R R c 0 v:=⟨h.len,h.wid,λa ha=>I,λ_ _ _=>rfl,λ_ _ _ _=>rfl⟩
theorem QV{f:aB}(hf:Pq f)(h0:0<=f.bQ)(h8:f.bQ<=8)(hK:3000<K):∀(d k i:Nat) (R:List (List Int)),i+d=f.bQ.toNat->d<k->QS f R i->
 ∃R',lu K f k R (i:Int)=some R'/\QS f R' f.bQ.toNat
 | d,k,i,R,hd,hk,hz=>by
  obtain⟨k,rfl⟩ :∃m,k=m+1:=⟨k-1,I⟩;rw[lu];have h2:=hf.hi;by_cases hi:i<f.bQ.toNat
  ·obtain⟨d,rfl⟩ :∃m,d=m+1:=⟨d-1,I⟩;obtain⟨met,e1,e2⟩:=Ps (K:=K) hf (i:Int) hK;obtain⟨R',r1,r2⟩:=QU (K:=K) hf hi e2.len f.ai.length K 0 R I I (U4.zero hz _);rw[rD,e1,ax,qz]at *;rw[r1,ax,Cl I];refine QV hf h0 h8 hK d k (i+1) R' I I (U4.tab hz ⟨r2.len,r2.wid,λa ha hb => ?_,r2.hi,r2.WV⟩);rw[r2.lo a ha hb];exact e2.val a hb
  ·rw[ez];obtain rfl:i=f.bQ.toNat:=by omega
   exact⟨R,rfl,hz⟩
theorem aaB:∀(a b c:Bool) (s:Int),Sn s->(O2 ((if a then 1 else 0)+(if b then 2 else 0)+(if c then 4 else 0)) s)=(if a||decide (s=1)then 1 else 0)+(if b||decide (s=2)then 2 else 0)+(if c||decide (s=4)then 4 else 0):=by
 intro a b c s hs;rcases hs with rfl | rfl | rfl<;>cases a<;>cases b<;>cases c<;>decide
theorem ab9{V:List Pt}{a s:Int}(hs:Sn s):O2 (wt V a) s=wt (V++[(a,s)]) a:=by
 have:=aaB (decide ((a,1)∈V)) (decide ((a,2)∈V)) (decide ((a,4)∈V)) s hs;simp only[CA]at this;unfold wt;rw[this];simp only[List.mem_append,List.mem_singleton,Prod.mk.injEq,true_and];rcases hs with rfl | rfl | rfl<;>simp
theorem acd{V:List Pt}{a b s:Int}(h:a≠b):wt (V++[(b,s)]) a=wt V a:=by unfold wt;simp[h]
theorem aaC{V agb:List Pt}(h:∀x,x∈V↔x∈agb)(a:Int):wt V a=wt agb a:=by unfold wt;simp only[h]
theorem QW{f:aB}(hf:Pq f){c:Nat}(hc:c<f.bQ.toNat){R:List (List Int)}:∀(l:List (aV×aV)) (U:List Pt) (Q:List (List Int)),(∀x∈l,0<=x.1.J/\x.1.J<f.ai.length/\Sn x.1.state)->U4 f R Q c f.ai.length (λa=>wt U a)->
 ∃R',l.foldlM (λs x=>pW K (c:Int) x s) Q=some R'/\U4 f R R' c f.ai.length (λa=>wt (U++l.map (λx=>(x.1.J,x.1.state))) a)
 | [],U,Q,_,hz=>⟨Q,rfl,by simpa using hz⟩
 | x::l,U,Q,hl,hz=>by
  obtain⟨a1,a2,a3⟩:=hl x (by simp);have hL:=hz.len;have hw:=hz.wid x.1.J.toNat I;rw[List.foldlM_cons,pW,bg ⟨a1,I⟩,bg ⟨I,by rw[hw];omega⟩,di];have hv:J (J Q x.1.J.toNat) c=wt U ((x.1.J.toNat:Nat):Int):=hz.lo x.1.J.toNat I I;rw[hv,ab9 a3,show((x.1.J.toNat:Nat):Int)=x.1.J by omega];obtain⟨R',r1,r2⟩:=QW hf hc (R:=R) l (U++[(x.1.J,x.1.state)]) (Q.set x.1.J.toNat ((J Q x.1.J.toNat).set c (wt (U++[(x.1.J,x.1.state)]) x.1.J))) (λy hy=>hl y (MW _ hy)) (by
   refine⟨by rw[gU];exact hL,λa ha => ?_,λa ha hb => ?_,λa ha hb=>I,λa ha b hb => ?_⟩
   ·rw[rL I];split
    ·rw[gU];exact hw
    ·exact hz.wid a ha
   ·rw[rL I];split
    ·rename_i e;subst e;rw[vx I,show((x.1.J.toNat:Nat):Int)=x.1.J by omega]
    ·rename_i e;rw[hz.lo a ha hb,acd I]
   ·rw[rL I];split
    ·rename_i e;subst e;rw[Av (λe=>hb e.symm)];exact hz.WV _ ha b hb
    ·exact hz.WV a ha b hb)
  refine⟨R',r1,?_⟩;rw[rK,KJ]at r2;exact r2
theorem K3{f:aB}(hf:Pq f)(h0:0<=f.bQ)(h8:f.bQ<=8)(hK:3000<K):∀(d k i:Nat) (R:List (List Int)),i+d=f.bQ.toNat->d<k->QS f R i->
 ∃R',pX K f k R (i:Int)=some R'/\QS f R' f.bQ.toNat
 | d,k,i,R,hd,hk,hz=>by
  obtain⟨k,rfl⟩ :∃m,k=m+1:=⟨k-1,I⟩;rw[pX];by_cases hi:i<f.bQ.toNat
  ·obtain⟨d,rfl⟩ :∃m,d=m+1:=⟨d-1,I⟩;obtain⟨m,e1,e2⟩:=XN (K:=K) hf (i:Int) hK;obtain⟨v1,v2,v3⟩:=Je hf (i:Int);have key:∀l':List (aV×aV),l'.Perm m->∃R',l'.foldlM (λs x=>pW K (i:Int) x s) R=some R'/\QS f R' (i+1):=by
    intro l' hp;have hr:∀x∈l',(x.1.J,x.1.state)∈reach f (i:Int):=λx hx=>by
     have:x.1∈m.map (·.1):=List.mem_map.2 ⟨x,hp.mem_iff.1 hx,rfl⟩;rw[e2]at this;obtain⟨y,hy,e⟩:=List.mem_map.1 this;rw[<-e];exact hy
    obtain⟨R',r1,r2⟩:=QW (K:=K) hf hi (R:=R) l' [] R (λx hx=>v1.WU _ (hr x hx)) ⟨hz.len,hz.wid,λa _ ha=>by rw[hz.zero a ha i (gQ _) hi];rfl,λa _ _=>rfl,λ_ _ _ _=>rfl⟩;refine⟨R',r1,U4.tab hz ⟨r2.len,r2.wid,λa ha hb => ?_,r2.hi,r2.WV⟩⟩;rw[r2.lo a ha hb];refine aaC (λx => ?_) a;rw[Bo,List.mem_map];refine⟨λ⟨y,hy,e⟩=>e▸ hr y hy,λhx => ?_⟩;have:pt x∈m.map (·.1):=by rw[e2];exact List.mem_map.2 ⟨x,hx,rfl⟩
    obtain⟨y,hy,e⟩:=List.mem_map.1 this;exact⟨y,hp.mem_iff.2 hy,by rw[e]⟩
   obtain⟨R',r1,r2⟩:=key m (List.Perm.refl _);have U5:xb (pW K (i:Int)) R m=some R':=Nt λl' hp=>by
    obtain⟨R2,q1,q2⟩:=key l' hp;rw[q1,U3 q2 r2]
   rw[rD,e1,ax,U5,ax,ax,Cl I];exact K3 hf h0 h8 hK d k (i+1) R' I I r2
  ·rw[ez];obtain rfl:i=f.bQ.toNat:=by omega
   exact⟨R,rfl,hz⟩
end
section
variable {K:Nat}
def J3(x:Int):Prop:=-9223372036854775808<=x/\x<=9223372036854775807
structure Zr(p:aE):Prop where
 f:∀f∈p.ah,J3 f.aS/\J3 f.dh/\J3 f.bQ
 c:∀f∈p.ah,∀c∈f.ai,J3 c.A/\J3 c.B/\J3 c.C/\J3 c.K
def uJ(x n:Int):Bool:=decide (0<=x)&&decide (x<n)
theorem ym{x n:Int}:uJ x n=true↔0<=x/\x<n:=by simp[uJ]
structure MO(f:aB):Prop where
 O:0<=f.aS
 p8:f.aS<=8
 r1:1<=f.dh
 rp:f.aS<=f.dh
 r16:f.dh<=16
 s0:0<=f.bQ
 s8:f.bQ<=8
 c1:1<=f.ai.length
 J4:f.ai.length<=512
theorem NV(f:aB) :∃b,j8 f=some b/\vY f=some b/\(b=true->MO f):=by
 have e:vY f=j8 f:=rfl;rw[e];unfold j8;by_cases h1:f.aS<0
 ·rw[bg h1];exact⟨false,rfl,rfl,λh=>Bool.noConfusion h⟩
 rw[cQ h1];by_cases h2:f.aS>8
 ·rw[bg h2];exact⟨false,rfl,rfl,λh=>Bool.noConfusion h⟩
 rw[cQ h2];by_cases h3:f.dh<1
 ·rw[bg h3];exact⟨false,rfl,rfl,λh=>Bool.noConfusion h⟩
 rw[cQ h3];by_cases h4:f.dh<f.aS
 ·rw[bg h4];exact⟨false,rfl,rfl,λh=>Bool.noConfusion h⟩
 rw[cQ h4];by_cases h5:f.dh>16
 ·rw[bg h5];exact⟨false,rfl,rfl,λh=>Bool.noConfusion h⟩
 rw[cQ h5,gz];by_cases h6:f.bQ>=0
 ·rw[bg h6];by_cases h7:f.bQ<=8
  ·rw[bg h7];by_cases h8:((f.ai.length:Nat):Int)>=1
   ·rw[bg h8];exact⟨_,rfl,rfl,λh=>⟨I,I,I,I,I,h6,h7,I,by have:=of_decide_eq_true h;omega⟩⟩
   ·rw[cQ h8];exact⟨false,rfl,rfl,λh=>Bool.noConfusion h⟩
  ·rw[cQ h7];exact⟨false,rfl,rfl,λh=>Bool.noConfusion h⟩
 ·rw[cQ h6];exact⟨false,rfl,rfl,λh=>Bool.noConfusion h⟩
def nv(f:aB)(c:cr):Bool:=
 if c.aG=0∨c.aG=8∨c.aG=9 then uJ c.A f.dh
 else if c.aG=1 then uJ c.A f.dh&&uJ c.B f.dh
 else if c.aG=2 then uJ c.A f.dh&&uJ c.B f.dh&&uJ c.C f.dh&&uJ c.K 16
 else if c.aG=3 then uJ c.A f.ai.length
 else if c.aG=4 then uJ c.A f.dh&&uJ c.B f.ai.length
 else if c.aG=5 then uJ c.A f.bQ
 else if c.aG=6 then true
 else if c.aG=7 then uJ c.A f.dh&&uJ c.B f.bQ
 else false
def wV(p:aE)(f:aB)(c:cr):Bool:=
 if c.aG=5 then uJ c.B p.ah.length&&(decide ((J p.ah c.B.toNat).aS=0)||(decide (0<=c.C)&&decide (c.C<=f.dh-(J p.ah c.B.toNat).aS)))else true
theorem Jf(x n:Int):gF x n=some (uJ x n):=by
 unfold gF uJ;by_cases h:0<=x
 ·rw[bg h];simp[h]
 ·rw[cQ h];simp[h]
theorem wW(x n:Int):(if x>=0 then some (decide (x<n))else some false)=some (uJ x n):=by
 unfold uJ;by_cases h:0<=x
 ·rw[bg h];simp[h]
 ·rw[cQ h];simp[h]
theorem NW(f:aB)(c:cr):oB f c=some (nv f c):=by
 unfold oB nv;simp only[Jf,ax];by_cases h0:c.aG=0
 ·simp[h0]
 by_cases h8:c.aG=8
 ·simp[h8]
 by_cases h9:c.aG=9
 ·simp[h9]
 simp only[h0,h8,h9,if_false,ax,false_or];have:((c.aG==9)=true)=False:=by simp[h9]
 simp only[this,if_false];by_cases h1:c.aG=1
 ·simp only[h1,if_true];cases uJ c.A f.dh<;>simp
 by_cases h2:c.aG=2
 ·simp only[h2,if_true,cQ (show ¬(2:Int)=1 by decide)];cases uJ c.A f.dh<;>cases uJ c.B f.dh<;>cases uJ c.C f.dh<;>simp[uJ];by_cases h:0<=c.K<;>simp[h]
 by_cases h3:c.aG=3
 ·simp[h3]
 by_cases h4:c.aG=4
 ·simp only[h4,if_true,cQ (show ¬(4:Int)=1 by decide),cQ (show ¬(4:Int)=2 by decide),cQ (show ¬(4:Int)=3 by decide)];cases uJ c.A f.dh<;>simp
 by_cases h5:c.aG=5
 ·simp[h5]
 by_cases h6:c.aG=6
 ·simp[h6]
 by_cases h7:c.aG=7
 ·simp only[h7,if_true,cQ (show ¬(7:Int)=1 by decide),cQ (show ¬(7:Int)=2 by decide),cQ (show ¬(7:Int)=3 by decide),cQ (show ¬(7:Int)=4 by decide),cQ (show ¬(7:Int)=5 by decide),cQ (show ¬(7:Int)=6 by decide)];cases uJ c.A f.dh<;>simp
 simp[h1,h2,h3,h4,h5,h6,h7]
theorem Sp{p:aE}{f:aB}{c:cr}(hs:∀g∈p.ah,MO g)(hf:MO f):pU p f c=some (wV p f c):=by
 unfold pU wV;by_cases h5:c.aG=5
 ·rw[bg h5,bg h5,Jf,ax];cases hb:uJ c.B p.ah.length
  ·simp
  ·have hb':=ym.1 hb;have hg:=hs _ (tR (l:=p.ah) (i:=c.B.toNat) I);rw[bg rfl,bg hb'];by_cases hn:(J p.ah c.B.toNat).aS=0
   ·rw[bg hn];simp[hn]
   ·rw[cQ hn,Jf,ax];have:=hg.O;have:=hg.p8;have:=hf.r16;cases hc:uJ c.C f.dh
    ·have:¬(0<=c.C/\c.C<=f.dh-(J p.ah c.B.toNat).aS):=λh=>by
      have:uJ c.C f.dh=true:=ym.2 ⟨h.1,I⟩;rw[hc]at this;exact Bool.noConfusion this
     simp[hn];intro h;omega
    ·have Gf:=ym.1 hc;rw[bg rfl,fh (x:=f.dh-c.C) I];simp[hn,Gf.1];omega
 ·rw[cQ h5,cQ h5]
theorem U6{p:aE}{f:aB}{c:cr}(hs:∀g∈p.ah,MO g)(hf:MO f)(hp:0<p.ah.length):vZ c f p.ah=some (nv f c&&wV p f c):=by
 unfold vZ nv wV;by_cases U7:c.aG<0
 ·rw[bg U7];simp only[Br];rw[ez,ez,ez,ez,ez,ez,ez,ez];rfl
 by_cases hk1:c.aG>=10
 ·rw[cQ U7,bg hk1];simp only[Br];rw[ez,ez,ez,ez,ez,ez,ez,ez];rfl
 rw[cQ U7,cQ hk1,gz,bg ⟨I,show c.aG<10 by omega⟩,bg hp,lO];have hl:¬((p.ah.length:Nat):Int)<0:=by omega
 have hK:(if c.K<0 then(some (.inr false):Option (Unit⊕Bool))else(if c.K>=16 then some (.inr false)else some (.inl ())))=if uJ c.K 16=true then some (.inl ())else some (.inr false):=by
  unfold uJ;by_cases h:c.K<0
  ·rw[bg h];simp;omega
  ·rw[cQ h];by_cases h':c.K>=16
   ·rw[bg h'];simp;omega
   ·rw[cQ h'];simp;omega
 unfold yy;rcases(by omega:c.aG=0∨c.aG=1∨c.aG=2∨c.aG=3∨c.aG=4∨c.aG=5∨c.aG=6∨c.aG=7∨c.aG=8∨c.aG=9)with h | h | h | h | h | h | h | h | h | h
 ·simp only[h,show(J yY (0:Int).toNat)=⟨1,0,0,0,true⟩from rfl];simp[wW];cases uJ c.A f.dh<;>simp[dX,Ax]
 ·simp only[h,show(J yY (1:Int).toNat)=⟨1,1,0,0,true⟩from rfl];simp[wW];cases uJ c.A f.dh<;>cases uJ c.B f.dh<;>simp[dX,Ax]
 ·simp only[h,show(J yY (2:Int).toNat)=⟨1,1,1,5,true⟩from rfl];simp[wW];cases uJ c.A f.dh<;>cases uJ c.B f.dh<;>cases uJ c.C f.dh<;>simp[dX,Ax,hK];cases uJ c.K 16<;>simp
 ·simp only[h,show(J yY (3:Int).toNat)=⟨3,0,0,0,false⟩from rfl];simp[wW];cases uJ c.A f.ai.length<;>simp[dX,Ax]
 ·simp only[h,show(J yY (4:Int).toNat)=⟨1,3,0,0,true⟩from rfl];simp[wW];cases uJ c.A f.dh<;>cases uJ c.B f.ai.length<;>simp[dX,Ax]
 ·simp only[h,show(J yY (5:Int).toNat)=⟨2,4,0,0,true⟩from rfl];simp[wW,hl,hp];cases hA:uJ c.A f.bQ
  ·simp[dX,Ax]
  ·cases hB:uJ c.B p.ah.length
   ·simp[dX,Ax]
   ·have hb':=ym.1 hB;have hg:=hs _ (tR (l:=p.ah) (i:=c.B.toNat) I);have:=hg.O;have:=hg.p8;have:=hf.r16;have:=hf.r1;rw[fh (x:=f.dh-(J p.ah c.B.toNat).aS) I];have hir:bJ c.B p.ah.length:=⟨hb'.1,hb'.2⟩;simp[dX,Ax];by_cases hn:(J p.ah c.B.toNat).aS=0
    ·simp[hn];exact hir
    ·simp[hn];by_cases hc:0<=c.C<;>simp[hc]<;>exact hir
 ·simp only[h,show(J yY (6:Int).toNat)=⟨0,0,0,0,true⟩from rfl];simp[wW,dX,Ax]
 ·simp only[h,show(J yY (7:Int).toNat)=⟨1,2,0,0,true⟩from rfl];simp[wW];cases uJ c.A f.dh<;>cases uJ c.B f.bQ<;>simp[dX,Ax]
 ·simp only[h,show(J yY (8:Int).toNat)=⟨1,0,0,0,true⟩from rfl];simp[wW];cases uJ c.A f.dh<;>simp[dX,Ax]
 ·simp only[h,show(J yY (9:Int).toNat)=⟨1,0,0,0,false⟩from rfl];simp[wW];cases uJ c.A f.dh<;>simp[dX,Ax]
end
section
variable {K:Nat}
def Pu(f:aB):Bool:=(decide ((J f.ai (f.ai.length-1)).aG=3)||decide ((J f.ai (f.ai.length-1)).aG=9))
theorem L0{f:aB}(hf:MO f):nN f=some (Pu f)/\xj f=some (Pu f):=by
 have e:xj f=nN f:=rfl;rw[e,and_self];unfold nN Pu;have h1:=hf.c1;have h2:=hf.J4;rw[fh I,bg ⟨I,I⟩,show(((f.ai.length:Nat):Int)-1).toNat=f.ai.length-1 by omega];split
 ·rename_i h;simp[h]
 ·rename_i h;simp[h];rfl
def QX(p:aE)(f:aB)(c:cr):Prop:=nv f c=true/\wV p f c=true
structure Code(p:aE)(f:aB):Prop where
 ins:∀a,a<f.ai.length->QX p f (J f.ai a)
 fin:Pu f=true
theorem Code.snd{p:aE}{f:aB}(hs:MO f)(h:Code p f):Pq f:=by
 have h1:=hs.c1;have h2:=hs.J4;have kd:∀a:Nat,a<f.ai.length->0<=(J f.ai a).aG/\(J f.ai a).aG<10:=λa ha=>by
  have:=(h.ins a ha).1;unfold nv at this;by_cases e:0<=(J f.ai a).aG/\(J f.ai a).aG<10
  ·exact e
  ·rw[ez,ez,ez,ez,ez,ez,ez,ez]at this;exact Bool.noConfusion this
 have en:=h.fin;unfold Pu at en;simp only[EV,CA]at en;refine⟨h1,h2,λa h0 h1 n hn => ?_,λa h0 h1=>kd _ I⟩;have hi:=(h.ins a.toNat I).1;unfold nv at hi;have last:¬(J f.ai a.toNat).aG=3->¬(J f.ai a.toNat).aG=9->a+1<f.ai.length:=λe3 e9=>by
  by_cases e:a.toNat=f.ai.length-1
  ·rw[<-e]at en;rcases en with en | en
   ·exact absurd en e3
   ·exact absurd en e9
  ·omega
 unfold Mo.nx at hn;split at hn
 ·rename_i e;rw[ez,ez,ez,bg e]at hi;rw[List.mem_singleton.1 hn];exact ym.1 hi
 ·rename_i e3;split at hn
  ·exact absurd hn (by simp)
  ·rename_i e9;have:=last e3 e9;split at hn
   ·rename_i e4;rw[ez,ez,ez,ez,bg e4,mI]at hi;have:=ym.1 hi.2;rcases List.mem_cons.1 hn with rfl | hn
    ·omega
    ·rw[List.mem_singleton.1 hn];exact this
   ·rw[List.mem_singleton.1 hn];omega
theorem Zs{p:aE}(hn:p.ah.length<=32):∀(d k i:Nat),i+d=p.ah.length->d<k->(∀a,a<i->MO (J p.ah a))->
 (∃x:eN,ji K p k (i:Int)=some (.inr x)/\pI K p k (i:Int)=some (.inr x)/\x.xd≠0)∨
 (ji K p k (i:Int)=some (.inl ())/\pI K p k (i:Int)=some (.inl ())/\∀a,a<p.ah.length->MO (J p.ah a))
 | d,k,i,hd,hk,h=>by
  obtain⟨k,rfl⟩ :∃m,k=m+1:=⟨k-1,I⟩;rw[ji,pI];by_cases hi:i<p.ah.length
  ·obtain⟨d,rfl⟩ :∃m,d=m+1:=⟨d-1,I⟩;obtain⟨b,e1,e2,e3⟩:=NV (J p.ah i);rw[rD,bg ⟨I,I⟩,rD,bg ⟨I,I⟩,di,e1,ax,e2,ax,Cl I];cases b
   ·left;exact⟨⟨51,i,0⟩,rfl,rfl,by show(51:Int)≠0;decide⟩
   ·exact Zs hn d k (i+1) I I (λa ha=>by
     by_cases e:a=i
     ·subst e;exact e3 rfl
     ·exact h a I)
  ·rw[ez,ez]
   right;exact⟨rfl,rfl,λa ha=>h a I⟩
theorem Zt{p:aE}{n:Nat}(hs:∀g∈p.ah,MO g)(hn:n<p.ah.length):∀(d k i:Nat),i+d=(J p.ah n).ai.length->d<k->(∀a,a<i->QX p (J p.ah n) (J (J p.ah n).ai a))->
 (∃j:Int,jk K p (n:Int) k (i:Int)=some (.inr (.inr (.inr ⟨52,n,j⟩)))/\gy K (n:Int) (J p.ah n) p.ah k (i:Int)=some (.inr (.inr ⟨52,n,j⟩)))∨
 (jk K p (n:Int) k (i:Int)=some (.inl ())/\gy K (n:Int) (J p.ah n) p.ah k (i:Int)=some (.inl ())/\∀a,a<(J p.ah n).ai.length->QX p (J p.ah n) (J (J p.ah n).ai a))
 | d,k,i,hd,hk,h=>by
  obtain⟨k,rfl⟩ :∃m,k=m+1:=⟨k-1,I⟩;have hf:=hs _ (tR hn);have LY:=hf.J4;rw[jk,gy];by_cases hi:i<(J p.ah n).ai.length
  ·obtain⟨d,rfl⟩ :∃m,d=m+1:=⟨d-1,I⟩;rw[di,rD,bg ⟨I,I⟩,rD,bg ⟨I,I⟩,di,NW,ax,U6 hs hf I,ax,Cl I];cases e1:nv (J p.ah n) (J (J p.ah n).ai i)
   ·left;exact⟨i,rfl,rfl⟩
   ·rw[bg rfl,Sp hs hf,ax];cases e2:wV p (J p.ah n) (J (J p.ah n).ai i)
    ·left;exact⟨i,rfl,rfl⟩
    ·rw[bg rfl,Bool.true_and,bg rfl];exact Zt hs hn d k (i+1) I I (λa ha=>by
      by_cases e:a=i
      ·subst e;exact⟨e1,e2⟩
      ·exact h a I)
  ·rw[di,ez,ez]
   right;exact⟨rfl,rfl,λa ha=>h a I⟩
theorem Zu{p:aE}(hn:p.ah.length<=32)(hs:∀g∈p.ah,MO g)(hK:3000<K):∀(d k i:Nat),i+d=p.ah.length->d<k->(∀a,a<i->Code p (J p.ah a))->
 (∃x:eN,jl K p k (i:Int)=some (.inr x)/\pJ K p k (i:Int)=some (.inr x)/\x.xd≠0)∨
 (jl K p k (i:Int)=some (.inl ())/\pJ K p k (i:Int)=some (.inl ())/\∀a,a<p.ah.length->Code p (J p.ah a))
 | d,k,i,hd,hk,h=>by
  obtain⟨k,rfl⟩ :∃m,k=m+1:=⟨k-1,I⟩;rw[jl,pJ];by_cases hi:i<p.ah.length
  ·obtain⟨d,rfl⟩ :∃m,d=m+1:=⟨d-1,I⟩;have hf:=hs _ (tR hi);have LY:=hf.J4;rw[rD,bg ⟨I,I⟩,rD,bg ⟨I,I⟩,di];unfold oC;rcases Zt (K:=K) hs hi (J p.ah i).ai.length K 0 I I (λa ha=>I)with ⟨j,e1,e2⟩ | ⟨e1,e2,e3⟩
   ·rw[qz]at e1 e2;rw[e1,e2];left;exact⟨⟨52,i,j⟩,rfl,rfl,by show(52:Int)≠0;decide⟩
   ·rw[qz]at e1 e2;rw[e1,e2,gz,gz,(L0 hf).1,(L0 hf).2,ax,ax];cases e4:Pu (J p.ah i)
    ·left;exact⟨⟨53,i,wi (((J p.ah i).ai.length:Int)-1)⟩,rfl,rfl,by show(53:Int)≠0;decide⟩
    ·rw[bg rfl,bg rfl,gz,ax,Cl I];exact Zu hn hs hK d k (i+1) I I (λa ha=>by
      by_cases e:a=i
      ·subst e;exact⟨e3,e4⟩
      ·exact h a I)
  ·rw[ez,ez]
   right;exact⟨rfl,rfl,λa ha=>h a I⟩
def Gg(f:aB)(a:Nat):Prop:=
 ((J f.ai a).aG=5->((a:Int),2)∉reach f (J f.ai a).A)/\
 ((J f.ai a).aG=7->((a:Int),1)∉reach f (J f.ai a).B/\((a:Int),2)∉reach f (J f.ai a).B)/\
 ((J f.ai a).aG=9->∀c:Nat,c<f.bQ.toNat->((a:Int),2)∉reach f c)
theorem ace:∀(a b c:Bool),((iu ((if a then 1 else 0)+(if b then 2 else 0)+(if c then 4 else 0)) 3=0)↔a=false/\b=false):=by
 intro a b c;cases a<;>cases b<;>cases c<;>decide
theorem U8{V:List Pt}{a:Int}:iu (wt V a) 3=0↔(a,1)∉V/\(a,2)∉V:=by
 have:=ace (decide ((a,1)∈V)) (decide ((a,2)∈V)) (decide ((a,4)∈V));simp only[CA,decide_eq_false_iff_not]at this;unfold wt;rw[this]
theorem XO{p:aE}{f:aB}(hs:MO f)(hc:Code p f)(hK:3000<K) :∃R,rZ K f=some R/\xm K f=some R/\QS f R f.bQ.toNat:=by
 have hf:=hc.snd hs;have h1:=hs.c1;have h2:=hs.J4;have hsd:∀(d k i:Nat),i+d=f.ai.length->d<k->jh K f k (i:Int)=some true:=by
  intro d
  induction d with
  | zero =>
   intro k i hd hk;obtain⟨k,rfl⟩ :∃m,k=m+1:=⟨k-1,I⟩;rw[jh,ez,(L0 hs).1,ax,hc.fin]
  | succ d ih =>
   intro k i hd hk;obtain⟨k,rfl⟩ :∃m,k=m+1:=⟨k-1,I⟩;rw[jh,rD,bg ⟨I,I⟩,NW,ax,di,(hc.ins i I).1,bg rfl,Cl I];exact ih k (i+1) I I
 obtain⟨b,e1,e2,e3⟩:=NV f;have hb:b=true:=by
  cases b
  ·exfalso
   unfold j8 at e1;have:=hs.O;have:=hs.p8;have:=hs.r1;have:=hs.rp;have:=hs.r16;have:=hs.s0;have:=hs.s8;rw[ez,ez,ez,ez,ez,gz,rD,rD,rD,uT I]at e1;exact Bool.noConfusion (Option.some.inj e1)
  ·rfl
 unfold rZ tO xm;have acf:=hsd f.ai.length K 0 I I;rw[qz]at acf;rw[e1,ax,hb,bg rfl,acf,ax,bg rfl,bg ⟨I,I⟩,bg ⟨I,I⟩];obtain⟨R,r1,r2,r3⟩:=QT (K:=K) hf hs.s0 hs.s8 f.ai.length K 0 (List.replicate f.ai.length []) I I ⟨by simp,λa ha=>I⟩;rw[qz]at r1 r2;rw[r1,r2,ax,ax];have hs8:=hs.s8;have ht:QS f R 0:=⟨r3.1,λa ha=>by rw[r3.2 a ha];simp,λa ha c hc=>I,λa ha c _ hc=>by rw[r3.2 a ha,Fq hc]⟩;obtain⟨R1,a1,a2⟩:=QV (K:=K) hf hs.s0 hs.s8 hK f.bQ.toNat K 0 R I I ht;obtain⟨R2,b1,b2⟩:=K3 (K:=K) hf hs.s0 hs.s8 hK f.bQ.toNat K 0 R I I ht;rw[qz]at a1 b1;have:=U3 a2 b2;subst this;exact⟨R1,a1,b1,a2⟩
theorem U9{f:aB}{R:List (List Int)}(ht:QS f R f.bQ.toNat)(h8:f.bQ<=8){a:Nat}(ha:a<f.ai.length):∀(d k i:Nat),i+d=f.bQ.toNat->d<k->
 ((∃c,i<=c/\c<f.bQ.toNat/\((a:Int),2)∈reach f c)->gV K (J R a) k (i:Int)=some 56/\∀g,jC K R a k g (i:Int)=some 56)/\
 ((∀c,i<=c->c<f.bQ.toNat->((a:Int),2)∉reach f c)->gV K (J R a) k (i:Int)=some 0/\∀g,jC K R a k g (i:Int)=some g)
 | d,k,i,hd,hk=>by
  obtain⟨k,rfl⟩ :∃m,k=m+1:=⟨k-1,I⟩;have hw:=ht.wid a ha;simp only[gV,jC,di];by_cases hi:i<f.bQ.toNat
  ·obtain⟨d,rfl⟩ :∃m,d=m+1:=⟨d-1,I⟩;obtain⟨UI,ih2⟩:=U9 ht h8 ha d k (i+1) I I;have key:iu (J (J R a) i) 2=0↔((a:Int),(2:Int))∉reach f i:=by rw[ht.val a ha i hi hi];exact HY (.inr (.inl rfl))
   rw[rD,bg ⟨I,I⟩,Cl I];by_cases e:((a:Int),(2:Int))∈reach f i
   ·rw[cQ (λh=>key.1 h e)];refine⟨λ_=>⟨rfl,λg => ?_⟩,λh=>absurd e (h i (gQ _) hi)⟩;rw[rD,bg ⟨I,I⟩,cQ (λh=>key.1 h e)];by_cases e2 :∃c,i+1<=c/\c<f.bQ.toNat/\((a:Int),(2:Int))∈reach f c
    ·exact(UI e2).2 56
    ·exact(ih2 (λc h1 h2 h3=>e2 ⟨c,h1,h2,h3⟩)).2 56
   ·have hb:=key.2 e;rw[bg hb];refine⟨λ⟨c,h1,h2,h3⟩ => ?_,λh => ?_⟩
    ·have:c≠i:=λe'=>by subst e';exact e h3
     obtain⟨x,y⟩:=UI ⟨c,I,h2,h3⟩;refine⟨x,λg => ?_⟩;rw[rD,bg ⟨I,I⟩,bg hb];exact y g
    ·obtain⟨x,y⟩:=ih2 (λc h1 h2=>h c I h2);refine⟨x,λg => ?_⟩;rw[rD,bg ⟨I,I⟩,bg hb];exact y g
  ·rw[ez];refine⟨λ⟨c,h1,h2,_⟩=>I,λ_=>⟨rfl,λg => ?_⟩⟩;rw[ez]
theorem QY{p:aE}{n:Nat}(hn:n<p.ah.length)(hs:MO (J p.ah n))(hc:Code p (J p.ah n))(hK:3000<K){R:List (List Int)}(ht:QS (J p.ah n) R (J p.ah n).bQ.toNat):∀(d k i:Nat),i+d=(J p.ah n).ai.length->d<k->(∀a,a<i->Gg (J p.ah n) a)->
 (∃e j:Int,e≠0/\jm K p (n:Int) R k (i:Int)=some (.inr ⟨e,n,j⟩)/\lQ K (n:Int) (J p.ah n) R k (i:Int)=some (.inr ⟨e,n,j⟩))∨
 (jm K p (n:Int) R k (i:Int)=some (.inl ())/\lQ K (n:Int) (J p.ah n) R k (i:Int)=some (.inl ())/\∀a,a<(J p.ah n).ai.length->Gg (J p.ah n) a)
 | d,k,i,hd,hk,h=>by
  obtain⟨k,rfl⟩ :∃m,k=m+1:=⟨k-1,I⟩;have LY:=hs.J4;have h8:=hs.s8;rw[jm,lQ];by_cases hi:i<(J p.ah n).ai.length
  ·obtain⟨d,rfl⟩ :∃m,d=m+1:=⟨d-1,I⟩;have hl:=ht.len;have hw:=ht.wid i hi;rw[di,rD,bg ⟨I,I⟩,bg ⟨I,I⟩,rD,bg ⟨I,I⟩,di,Cl I];have key :∃e:Int,nI K (J (J p.ah n).ai i) (J R i)=some e/\
    (if(J (J p.ah n).ai i).aG=5 then if bJ (i:Int) R.length then if bJ (J (J p.ah n).ai i).A (J R i).length then(if(iu (J (J R i) (J (J p.ah n).ai i).A.toNat) (2:Int))=0 then some 0 else some 54)else none else none else(if(J (J p.ah n).ai i).aG=7 then if bJ (i:Int) R.length then if bJ (J (J p.ah n).ai i).B (J R i).length then(if(iu (J (J R i) (J (J p.ah n).ai i).B.toNat) (3:Int))=0 then some 0 else some 55)else none else none else(if(J (J p.ah n).ai i).aG=9 then if bJ (i:Int) R.length then(jC K R i K 0 0)else none else some 0)))=some e/\(e=0->Gg (J p.ah n) i):=by
    have Va:=(hc.ins i hi).1;unfold nv at Va;unfold nI;by_cases k5:(J (J p.ah n).ai i).aG=5
    ·rw[ez,ez,ez,ez,ez,bg k5]at Va;have hA:=ym.1 Va;have key:iu (J (J R i) (J (J p.ah n).ai i).A.toNat) 2=0↔((i:Int),(2:Int))∉reach (J p.ah n) (J (J p.ah n).ai i).A:=by
      rw[ht.val i hi _ I I,show(((J (J p.ah n).ai i).A.toNat:Nat):Int)=(J (J p.ah n).ai i).A by omega];exact HY (.inr (.inl rfl))
     by_cases e:((i:Int),(2:Int))∈reach (J p.ah n) (J (J p.ah n).ai i).A
     ·rw[bg k5,bg k5,bg ⟨hA.1,I⟩,cQ (λh=>key.1 h e),bg ⟨I,I⟩];exact⟨54,rfl,rfl,λh=>absurd h gB⟩
     ·rw[bg k5,bg k5,bg ⟨hA.1,I⟩,bg (key.2 e),bg ⟨I,I⟩];exact⟨0,rfl,rfl,λ_=>⟨λ_=>e,λh=>I,λh=>I⟩⟩
    rw[cQ k5,cQ k5];by_cases k7:(J (J p.ah n).ai i).aG=7
    ·rw[ez,ez,ez,ez,ez,ez,ez,bg k7,mI]at Va;have hB:=ym.1 Va.2;have key:iu (J (J R i) (J (J p.ah n).ai i).B.toNat) 3=0↔((i:Int),(1:Int))∉reach (J p.ah n) (J (J p.ah n).ai i).B/\((i:Int),(2:Int))∉reach (J p.ah n) (J (J p.ah n).ai i).B:=by
      rw[ht.val i hi _ I I,show(((J (J p.ah n).ai i).B.toNat:Nat):Int)=(J (J p.ah n).ai i).B by omega];exact U8
     by_cases e:iu (J (J R i) (J (J p.ah n).ai i).B.toNat) 3=0
     ·rw[bg k7,bg k7,bg ⟨hB.1,I⟩,bg e,bg ⟨I,I⟩];exact⟨0,rfl,rfl,λ_=>⟨λh=>I,λ_=>key.1 e,λh=>I⟩⟩
     ·rw[bg k7,bg k7,bg ⟨hB.1,I⟩,cQ e,bg ⟨I,I⟩];exact⟨55,rfl,rfl,λh=>absurd h gB⟩
    rw[cQ k7,cQ k7];by_cases k9:(J (J p.ah n).ai i).aG=9
    ·rw[bg k9,bg k9,bg ⟨I,I⟩];obtain⟨o1,o2⟩:=U9 (K:=K) ht h8 hi (J p.ah n).bQ.toNat K 0 I I;rw[qz]at o1 o2;by_cases e :∃c,0<=c/\c<(J p.ah n).bQ.toNat/\((i:Int),(2:Int))∈reach (J p.ah n) c
     ·exact⟨56,(o1 e).1,(o1 e).2 0,λh=>absurd h gB⟩
     ·have e':∀c,0<=c->c<(J p.ah n).bQ.toNat->((i:Int),(2:Int))∉reach (J p.ah n) c:=λc h1 h2 h3=>e ⟨c,h1,h2,h3⟩;exact⟨0,(o2 e').1,(o2 e').2 0,λ_=>⟨λh=>I,λh=>I,λ_ c hc=>e' c (w7 _) hc⟩⟩
    ·rw[cQ k9,cQ k9];exact⟨0,rfl,rfl,λ_=>⟨λh=>absurd h k5,λh=>absurd h k7,λh=>absurd h k9⟩⟩
   obtain⟨e,e1,e2,e3⟩:=key;rw[e1,e2,ax,ax];by_cases e0:e=0
   ·rw[bg e0,bg e0,gz];exact QY hn hs hc hK ht d k (i+1) I I (λa ha=>by
     by_cases e:a=i
     ·subst e;exact e3 e0
     ·exact h a I)
   ·rw[cQ e0,cQ e0];left;exact⟨e,i,e0,rfl,rfl⟩
  ·rw[di,ez,ez]
   right;exact⟨rfl,rfl,λa ha=>h a I⟩
theorem Zv{p:aE}(hn:p.ah.length<=32)(hs:∀g∈p.ah,MO g)(hc:∀a,a<p.ah.length->Code p (J p.ah a))(hK:3000<K):∀(d k i:Nat),i+d=p.ah.length->d<k->(∀a,a<i->∀b,b<(J p.ah a).ai.length->Gg (J p.ah a) b)->
 ∃x:eN,j9 K p k (i:Int)=some x/\rH K p k (i:Int)=some x/\(x.xd=0->∀a,a<p.ah.length->∀b,b<(J p.ah a).ai.length->Gg (J p.ah a) b)
 | d,k,i,hd,hk,h=>by
  obtain⟨k,rfl⟩ :∃m,k=m+1:=⟨k-1,I⟩;rw[j9,rH];by_cases hi:i<p.ah.length
  ·obtain⟨d,rfl⟩ :∃m,d=m+1:=⟨d-1,I⟩;have hf:=hs _ (tR hi);have LY:=hf.J4;rw[rD,bg ⟨I,I⟩,rD,bg ⟨I,I⟩,di];unfold wP;obtain⟨R,r1,r2,r3⟩:=XO (K:=K) hf (hc i hi) hK;rw[r1,r2,ax,ax];rcases QY (K:=K) hi hf (hc i hi) hK r3 (J p.ah i).ai.length K 0 I I (λa ha=>I)with ⟨e,j,e0,e1,e2⟩ | ⟨e1,e2,e3⟩
   ·rw[qz]at e1 e2;rw[e1,e2];exact⟨⟨e,i,j⟩,rfl,rfl,λh=>absurd h e0⟩
   ·rw[qz]at e1 e2;rw[e1,e2,gz,ax,Cl I];exact Zv hn hs hc hK d k (i+1) I I (λa ha=>by
     by_cases e:a=i
     ·subst e;exact e3
     ·exact h a I)
  ·rw[ez,ez];exact⟨⟨0,0,0⟩,rfl,rfl,λ_ a ha=>h a I⟩
structure Valid(p:aE):Prop where
 n1:1<=p.ah.length
 n32:p.ah.length<=32
 HZ:∀a,a<p.ah.length->MO (J p.ah a)
 code:∀a,a<p.ah.length->Code p (J p.ah a)
 slot:∀a,a<p.ah.length->∀b,b<(J p.ah a).ai.length->Gg (J p.ah a) b
theorem Vb(p:aE)(hK:3000<K) :∃x:eN,jc K p=some x/\yK K p=some x/\(x.xd=0->Valid p):=by
 unfold jc yK;by_cases h1:((p.ah.length:Nat):Int)<1
 ·rw[bg h1];exact⟨_,rfl,rfl,λh=>absurd h gB⟩
 rw[cQ h1];by_cases h2:((p.ah.length:Nat):Int)>32
 ·rw[bg h2];exact⟨_,rfl,rfl,λh=>absurd h gB⟩
 rw[cQ h2,gz,gz];rcases Zs (K:=K) (p:=p) I p.ah.length K 0 I I (λa ha=>I)with ⟨x,e1,e2,e3⟩ | ⟨e1,e2,e3⟩
 ·rw[qz]at e1 e2;rw[e1,e2];exact⟨x,rfl,rfl,λh=>absurd h e3⟩
 rw[qz]at e1 e2;have hs:∀g∈p.ah,MO g:=λg hg=>by
  obtain⟨i,hi,e⟩:=List.getElem_of_mem hg;have:=e3 i hi;unfold J at this;rw[List.getD_eq_getElem?_getD,List.getElem?_eq_getElem hi]at this;rw[<-e];exact this
 rw[e1,e2,gz,gz];rcases Zu (K:=K) (p:=p) I hs hK p.ah.length K 0 I I (λa ha=>I)with ⟨x,a1,a2,a3⟩ | ⟨a1,a2,a3⟩
 ·rw[qz]at a1 a2;rw[a1,a2];exact⟨x,rfl,rfl,λh=>absurd h a3⟩
 rw[qz]at a1 a2;rw[a1,a2,gz,gz];obtain⟨x,b1,b2,b3⟩:=Zv (K:=K) (p:=p) I hs a3 hK p.ah.length K 0 I I (λa ha=>I);rw[qz]at b1 b2;exact⟨x,b1,b2,λh=>⟨I,I,e3,a3,b3 h⟩⟩
end
end Mo
end
end Go.Proofs.YtaiffafelihaaaaGreatDoor

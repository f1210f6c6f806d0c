/- plunderlaw11.WorkerAccesses answers true for every input of the bulk that the statement names and leaves its input alone; the last part states it. Conditions: none. -/
import Derived.Test.YtpikpffbcjpmcaaGreatDoorY3
set_option linter.unusedVariables false
set_option linter.unusedSimpArgs false
set_option linter.unusedSectionVars false
namespace Go.Proofs.YtpikpffbcjpmcaaGreatDoor
section
namespace Am
def fE{α β:Type}[DecidableEq α](f:α→β)(a:α)(v:β):α→β:=λx=>if x=a then v else f x
@[simp] theorem bQ{α β:Type}[DecidableEq α](f:α→β)(a:α)(v:β):fE f a v a=v:=by simp[fE]
theorem bA{α β:Type}[DecidableEq α]{f:α→β}{a x:α}{v:β}(h:x≠a):fE f a v x=f x:=by simp[fE,h]
theorem fD{α β:Type}[DecidableEq α](f:α→β)(a x:α)(v:β):fE f a v x=if x=a then v else f x:=rfl
inductive Tw
 | const (a:Nat) (k:Int) | move (a b:Nat) | arith (op:Int) (a b c:Nat) | jump (a:Nat) | branch (a b:Nat)
 | spawn (s f c:Nat) | sync | load (a s:Nat) | nr (a:Nat) | ret (a:Nat)
deriving DecidableEq,Inhabited
structure k8 where
 N:Nat
 F:Nat
 first:Nat
 most:Nat
 QM:Nat
 len:Nat→Nat
 params:Nat→Nat
 cg:Nat→Nat
 code:Nat→Nat→Tw
 ap:Int→Int→Int→Int
 pd:Int→Nat→Int
inductive qR
 | result | next | join (f:Nat) | mark (f:Nat) | slot (f s:Nat) | qa | AA | flag (i:Nat)
 | top (i:Nat) | bot (i:Nat) | buf (i:Nat) | cap (i g:Nat) | el (i g n:Nat)
deriving DecidableEq
structure Fr where
 fn:Nat
 ag:Nat
 par:Nat
 slot:Nat
 ck:Nat
 nr:Int
 cg:Nat→Int
structure Ev where
 kind:Nat
 aj:Int
 x:Int
 v:Int
structure Acc where
 kind:Nat
 a:qR
 x:Int
 y:Int
 ok:Bool
inductive Pc
 | halted | full | start (x:Int) | run | fork (c:Nat) | pI | out (p c:Nat) | take (p c:Nat)
 | done | tell (j:Nat) | ug (j:Nat)
 | zA (c:Nat) | vR (c:Nat) (b:Int) | pJ (c:Nat) (b t:Int) | pK (c:Nat) (b t:Int)
 | grow (c:Nat) (b t cc:Int) | nh (c:Nat) (b t cc:Int) | kG (c:Nat) (b t cc n:Int)
 | kO (c:Nat) (b t cc n x:Int) | ni (c:Nat) (b t cc:Int) | kH (c:Nat) (b cc:Int) | oC (c:Nat) (b:Int)
 | DA | qG (j:Nat) | s5 (j:Nat)
 | CR | tH (b:Int) | og (b:Int) | AB (b:Int) | nQ (t:Int) | sA (b t:Int)
 | oR (b t cc:Int) | rC (b t x:Int) | pR (t x:Int) (wG:Bool)
 | oa | sB (v:Nat) (t:Int) | oh (v:Nat) (t:Int) | nR (v:Nat) (t:Int) (g:Nat)
 | me (v:Nat) (t:Int) (g:Nat) (cc:Int) | nj (v:Nat) (t x:Int)
 | AD | flag | sleep | so | AU (j:Nat) | zB (j:Nat) (t:Int) | parked | back (h:Bool) | s6 (h:Bool)
deriving DecidableEq
inductive Loc
 | free | bM (i:Nat) | QN (i:Nat) | pop (i:Nat) | held (i:Nat) | qH (i:Nat) | waiting | w7 (i:Nat) | fin (i:Nat) | gone
deriving DecidableEq
structure St where
 mem:qR→Int
 pc:Nat→Pc
 hold:Nat→Option Nat
 tries:Nat→Nat
 fr:Nat→Fr
 nf:Nat
 cur:Nat→Nat
 base:Nat→Nat→Int
 size:Int
 val:Option Int
 EZ:Bool
 loc:Nat→Loc
 q:Nat→List Nat
 pop:Nat→Option Nat
 ck:Nat→List Nat
structure Out where
 s:St
 ev:Option Ev
 acc:Option Acc
def ix(n c:Int):Nat:=(n%c).toNat
def ij(C:k8)(cc:Int):Int:=if 2*cc≤C.most then 2*cc else C.most
def GG(C:k8)(i:Nat):Nat:=(i+1)%C.N
namespace St
def wr(s:St)(a:qR)(v:Int):St:={s with mem:=fE s.mem a v}
def to(s:St)(i:Nat)(p:Pc):St:={s with pc:=fE s.pc i p}
def holds(s:St)(i:Nat)(f:Option Nat):St:={s with hold:=fE s.hold i f}
def put(s:St)(f:Nat)(l:Loc):St:={s with loc:=fE s.loc f l}
def pS(s:St)(i n:Nat):St:={s with tries:=fE s.tries i n}
def lay(s:St)(f:Nat)(x:Fr):St:={s with fr:=fE s.fr f x}
def nZ(s:St)(j:Nat)(l:List Nat):St:={s with q:=fE s.q j l}
def lJ(s:St)(i:Nat)(x:Option Nat):St:={s with pop:=fE s.pop i x}
def Bj(s:St)(f:Nat)(l:List Nat):St:={s with ck:=fE s.ck f l}
end St
def nB(a:qR)(v:Int):Option Acc:=some ⟨0,a,v,0,true⟩
def oY(a:qR)(v:Int):Option Acc:=some ⟨1,a,v,0,true⟩
def DB(a:qR)(o n:Int)(ok:Bool):Option Acc:=some ⟨2,a,o,n,ok⟩
def xQ(a:qR)(d v:Int):Option Acc:=some ⟨3,a,d,v,true⟩
def Si(a:qR)(n:Int):Option Acc:=some ⟨4,a,n,0,true⟩
def ev(k:Nat)(f x v:Int):Option Ev:=some ⟨k,f,x,v⟩
def nk(s:St)(C:k8)(i j:Nat)(acc:Option Acc):Out:=
 if j=i then⟨s.to i .halted,ev 10 0 0 0,acc⟩else⟨s.to i (.tell j),none,acc⟩
def looking(s:St)(C:k8)(i j:Nat)(acc:Option Acc):Out:=
 if j=i then⟨s.to i .parked,ev 9 0 0 0,acc⟩else⟨s.to i (.AU j),none,acc⟩
def DC(s:St)(C:k8)(i:Nat):St:=s.to i (if C.N=1 then .flag else .oa)
def zC(s:St)(C:k8)(i:Nat)(h:Bool)(acc:Option Acc):Out:=
 if h then⟨s.to i .halted,ev 10 0 0 0,acc⟩else⟨DC (s.pS i 0) C i,none,acc⟩
def got(s:St)(i:Nat)(x:Int)(v:Int):St:=
 ((s.holds i (some x.toNat)).to i (.start v)).put x.toNat (.held i)
def jT(C:k8)(p:Fr)(f:Nat)(sl g c:Nat):Fr:=
 { fn:=g,ag:=0,par:=f,slot:=sl,ck:=0,nr:=C.pd p.nr p.ck,cg:=λr=>if r<C.params g then p.cg (c+r)else 0}
def instr(C:k8)(s:St)(i:Nat):Out:=
 let f:=(s.hold i).getD 0
 let x:=s.fr f
 let y:Fr:={x with ag:=x.ag+1}
 match C.code x.fn x.ag with
 | .const a k=>⟨s.lay f {y with cg:=fE x.cg a k},none,none⟩
 | .move a b=>⟨s.lay f {y with cg:=fE x.cg a (x.cg b)},none,none⟩
 | .arith op a b c=>⟨s.lay f {y with cg:=fE x.cg a (C.ap op (x.cg b) (x.cg c))},none,none⟩
 | .jump a=>⟨s.lay f {y with ag:=a},none,none⟩
 | .branch a b=>⟨s.lay f (if x.cg a≠0 then {y with ag:=b}else y),none,none⟩
 | .nr a=>⟨s.lay f {y with cg:=fE x.cg a x.nr},none,none⟩
 | .load a sl=>⟨s.lay f {y with cg:=fE x.cg a (s.mem (.slot f sl))},none,nB (.slot f sl) (s.mem (.slot f sl))⟩
 | .spawn sl g c =>
  let n:=s.mem .next+1
  let s:=(s.wr .next n).lay f y
  if (C.F:Int)≤n-1 then⟨{s with EZ:=true}.to i .full,ev 11 (-1) 0 0,xQ .next 1 n⟩
  else ⟨{((s.lay f {y with ck:=x.ck+1}).lay s.nf (jT C x f sl g c))with nf:=s.nf+1}.put s.nf (.bM i) |>.to i (.fork s.nf),none,xQ .next 1 n⟩
 | .sync =>
  let n:=s.mem (.join f)-1
  let s:=(s.wr (.join f) n).lay f y
  if 0<n then⟨((s.holds i none).to i .CR).put f .waiting,ev 4 f 0 0,xQ (.join f) (-1) n⟩
  else ⟨(s.to i .pI).put f (.qH i),none,xQ (.join f) (-1) n⟩
 | .ret a =>
  let v:=x.cg a
  let s:=s.lay f y
  if f=0 then⟨{(((s.wr .result v).holds i none).to i .done).put 0 (.fin i)with val:=some v},ev 6 0 (-1) v,oY .result v⟩
  else ⟨(((s.wr (.slot x.par x.slot) v).holds i none).to i (.out x.par f)).put f (.fin i),ev 6 f x.par v,oY (.slot x.par x.slot) v⟩
def step(C:k8)(s:St)(i:Nat)(d:Int):Out:=
 let f:=(s.hold i).getD 0
 match s.pc i with
 | .halted | .full=>⟨s,none,none⟩
 | .start x=>let v:=s.mem (.mark f)+1;⟨(s.wr (.mark f) v).to i .run,ev 1 f x v,xQ (.mark f) 1 v⟩
 | .run=>instr C s i
 | .fork c=>let v:=s.mem (.join f)+1;⟨((s.wr (.join f) v).Bj f (c::s.ck f)).to i (.zA c),none,xQ (.join f) 1 v⟩
 | .pI=>⟨((s.wr (.join f) 1).to i .run).put f (.held i),ev 5 f 0 0,oY (.join f) 1⟩
 | .out p c =>
  let n:=s.mem (.join p)-1
  let s:=((s.wr (.join p) n).Bj p ((s.ck p).erase c)).put c .gone
  if n=0 then⟨(s.to i (.take p c)).put p (.w7 i),none,xQ (.join p) (-1) n⟩else⟨s.to i .CR,none,xQ (.join p) (-1) n⟩
 | .take p c=>⟨(((s.wr (.join p) 1).holds i (some p)).to i .run).put p (.held i),ev 7 p c 0,oY (.join p) 1⟩
 | .done=>nk (s.wr .AA 1) C i (GG C i) (oY .AA 1)
 | .tell j=>if s.mem (.flag j)=1 then⟨(s.wr (.flag j) 0).to i (.ug j),none,DB (.flag j) 1 0 true⟩
  else nk s C i (GG C j) (DB (.flag j) 1 0 false)
 | .ug j=>let v:=s.mem .qa-1;nk (s.wr .qa v) C i (GG C j) (xQ .qa (-1) v)
 | .zA c=>⟨s.to i (.vR c (s.mem (.bot i))),none,nB (.bot i) (s.mem (.bot i))⟩
 | .vR c b=>⟨s.to i (.pJ c b (s.mem (.top i))),none,nB (.top i) (s.mem (.top i))⟩
 | .pJ c b t=>⟨s.to i (.pK c b t),none,nB (.buf i) (s.mem (.buf i))⟩
 | .pK c b t =>
  let cc:=s.mem (.cap i (s.cur i))
  let a:=nB (.cap i (s.cur i)) cc
  if b-t<cc then⟨s.to i (.kH c b cc),none,a⟩
  else if(C.most:Int)≤cc then⟨{s with EZ:=true}.to i .full,ev 11 c 1 0,a⟩
  else ⟨s.to i (.grow c b t cc),none,a⟩
 | .grow c b t cc =>
  let g:=s.cur i+1
  ⟨{s with base:=fE s.base i (fE (s.base i) g s.size),size:=s.size+1+ij C cc,
            mem:=λa=>match a with | .cap i' g'=>if i'=i∧g'=g then 0 else s.mem a | .el i' g' _=>if i'=i∧g'=g then 0 else s.mem a | _=>s.mem a}.to i (.nh c b t cc),
   none,Si (.cap i g) (1+ij C cc)⟩
 | .nh c b t cc=>⟨(s.wr (.cap i (s.cur i+1)) (ij C cc)).to i (.kG c b t cc t),none,oY (.cap i (s.cur i+1)) (ij C cc)⟩
 | .kG c b t cc n=>let x:=s.mem (.el i (s.cur i) (ix n cc));⟨s.to i (.kO c b t cc n x),none,nB (.el i (s.cur i) (ix n cc)) x⟩
 | .kO c b t cc n x =>
  ⟨(s.wr (.el i (s.cur i+1) (ix n (ij C cc))) x).to i (if n+1<b then .kG c b t cc (n+1)else .ni c b t cc),none,oY (.el i (s.cur i+1) (ix n (ij C cc))) x⟩
 | .ni c b t cc =>
  let a:=s.base i (s.cur i+1)
  ⟨{s.wr (.buf i) a with cur:=fE s.cur i (s.cur i+1)}.to i (.kH c b (ij C cc)),none,oY (.buf i) a⟩
 | .kH c b cc=>⟨(s.wr (.el i (s.cur i) (ix b cc)) c).to i (.oC c b),none,oY (.el i (s.cur i) (ix b cc)) c⟩
 | .oC c b=>⟨(((s.wr (.bot i) (b+1)).nZ i (s.q i++[c])).put c (.QN i)).to i .DA,ev 2 c f (s.fr c).nr,oY (.bot i) (b+1)⟩
 | .DA=>let n:=s.mem .qa;⟨s.to i (if 0<n∧1<C.N then .qG (GG C i)else .run),none,nB .qa n⟩
 | .qG j =>
  if s.mem (.flag j)=1 then⟨(s.wr (.flag j) 0).to i (.s5 j),none,DB (.flag j) 1 0 true⟩
  else ⟨s.to i (if GG C j=i then .run else .qG (GG C j)),none,DB (.flag j) 1 0 false⟩
 | .s5 j=>let v:=s.mem .qa-1;⟨(s.wr .qa v).to i .run,ev 3 f j 0,xQ .qa (-1) v⟩
 | .CR=>⟨s.to i (.tH (s.mem (.bot i)-1)),none,nB (.bot i) (s.mem (.bot i))⟩
 | .tH b=>⟨s.to i (.og b),none,nB (.buf i) (s.mem (.buf i))⟩
 | .og b=>⟨(s.wr (.bot i) b).to i (.AB b),none,oY (.bot i) b⟩
 | .AB b =>
  let t:=s.mem (.top i)
  let a:=nB (.top i) t
  if t<b then
   let x:=(s.q i).getLastD 0
   ⟨(((s.to i (.sA b t)).nZ i (s.q i).dropLast).put x (.pop i)).lJ i (some x),none,a⟩
  else if t=b then⟨s.to i (.sA b t),none,a⟩else⟨s.to i (.nQ t),none,a⟩
 | .nQ t=>⟨DC ((s.wr (.bot i) t).pS i 0) C i,none,oY (.bot i) t⟩
 | .sA b t=>let cc:=s.mem (.cap i (s.cur i));⟨s.to i (.oR b t cc),none,nB (.cap i (s.cur i)) cc⟩
 | .oR b t cc =>
  let x:=s.mem (.el i (s.cur i) (ix b cc))
  let a:=nB (.el i (s.cur i) (ix b cc)) x
  if t<b then⟨(got s i x (-1)).lJ i none,none,a⟩else⟨s.to i (.rC b t x),none,a⟩
 | .rC b t x =>
  if s.mem (.top i)=t then⟨((((s.wr (.top i) (t+1)).to i (.pR t x true)).nZ i []).put x.toNat (.pop i)).lJ i (some x.toNat),none,DB (.top i) t (t+1) true⟩
  else ⟨s.to i (.pR t x false),none,DB (.top i) t (t+1) false⟩
 | .pR t x wG =>
  let s:=(s.wr (.bot i) (t+1)).pS i 0
  ⟨if wG then(got s i x (-1)).lJ i none else DC s C i,none,oY (.bot i) (t+1)⟩
 | .oa =>
  let v:=((i+1+(d%((C.N:Int)-1)).toNat)%C.N)
  ⟨s.to i (.sB v (s.mem (.top v))),none,nB (.top v) (s.mem (.top v))⟩
 | .sB v t =>
  let b:=s.mem (.bot v)
  if b≤t then⟨(s.pS i (s.tries i+1)).to i .AD,none,nB (.bot v) b⟩else⟨s.to i (.oh v t),none,nB (.bot v) b⟩
 | .oh v t=>⟨s.to i (.nR v t (s.cur v)),none,nB (.buf v) (s.mem (.buf v))⟩
 | .nR v t g=>let cc:=s.mem (.cap v g);⟨s.to i (.me v t g cc),none,nB (.cap v g) cc⟩
 | .me v t g cc=>let x:=s.mem (.el v g (ix t cc));⟨s.to i (.nj v t x),none,nB (.el v g (ix t cc)) x⟩
 | .nj v t x =>
  if s.mem (.top v)=t then⟨got ((s.wr (.top v) (t+1)).nZ v (s.q v).tail) i x v,ev 8 x v 0,DB (.top v) t (t+1) true⟩
  else ⟨(s.pS i (s.tries i+1)).to i .AD,none,DB (.top v) t (t+1) false⟩
 | .AD =>
  let d:=s.mem .AA
  if d=1 then⟨s.to i .halted,ev 10 0 0 0,nB .AA d⟩
  else ⟨s.to i (if s.tries i<3 then .oa else .flag),none,nB .AA d⟩
 | .flag=>⟨(s.wr (.flag i) 1).to i .sleep,none,oY (.flag i) 1⟩
 | .sleep=>let v:=s.mem .qa+1;⟨(s.wr .qa v).to i .so,none,xQ .qa 1 v⟩
 | .so=>let d:=s.mem .AA;if d=1 then⟨s.to i (.back true),none,nB .AA d⟩else looking s C i (GG C i) (nB .AA d)
 | .AU j=>⟨s.to i (.zB j (s.mem (.top j))),none,nB (.top j) (s.mem (.top j))⟩
 | .zB j t=>let b:=s.mem (.bot j);if t<b then⟨s.to i (.back false),none,nB (.bot j) b⟩else looking s C i (GG C j) (nB (.bot j) b)
 | .parked=>let v:=s.mem (.flag i);if v=1 then⟨s,none,nB (.flag i) v⟩else⟨DC (s.pS i 0) C i,none,nB (.flag i) v⟩
 | .back h=>if s.mem (.flag i)=1 then⟨(s.wr (.flag i) 0).to i (.s6 h),none,DB (.flag i) 1 0 true⟩else zC s C i h (DB (.flag i) 1 0 false)
 | .s6 h=>let v:=s.mem .qa-1;zC (s.wr .qa v) C i h (xQ .qa (-1) v)
theorem Sj{m n c:Int}(hc:0<c)(h:ix m c=ix n c)(h1:m-n<c)(h2:n-m<c):m=n:=by
 have a1:=Int.emod_nonneg m (b:=c) (by omega)
 have a2:=Int.emod_nonneg n (b:=c) (by omega)
 have b1:=Int.emod_lt_of_pos m hc
 have b2:=Int.emod_lt_of_pos n hc
 have h':m%c=n%c:=by unfold ix at h;omega
 have e1:=Int.mul_ediv_add_emod m c
 have e2:=Int.mul_ediv_add_emod n c
 have h3:m-n=c*(m/c-n/c):=by rw[Int.mul_sub];omega
 have:m/c-n/c=0:=by
  rcases Int.lt_trichotomy (m/c-n/c) 0 with h | h | h
  ·have:c*(m/c-n/c)≤c*(-1):=Int.mul_le_mul_of_nonneg_left (by omega) (by omega)
   omega
  ·exact h
  ·have:c*1≤c*(m/c-n/c):=Int.mul_le_mul_of_nonneg_left (by omega) (by omega)
   omega
 rw[this]at h3;omega
theorem Nj{m n c:Int}(hc:0<c)(h1:m-n<c)(h2:n-m<c)(h:m≠n):ix m c≠ix n c:=λe=>h (Sj hc e h1 h2)
namespace St
abbrev T(s:St)(j:Nat):Int:=s.mem (.top j)
abbrev B(s:St)(j:Nat):Int:=s.mem (.bot j)
abbrev cc(s:St)(j:Nat):Int:=s.mem (.cap j (s.cur j))
abbrev L(s:St)(j:Nat):Int:=((s.q j).length:Int)
end St
def zD(C:k8)(s:St)(j:Nat)(b t cc:Int):Prop:=s.B j=b∧s.T j+s.L j=b∧s.L j≤s.cc j∧t≤s.T j∧cc=s.cc j∧b-t=cc∧cc<C.most
def w8(C:k8)(s:St)(j:Nat)(n:Int):Prop:=
 s.mem (.cap j (s.cur j+1))=ij C (s.cc j)∧∀m,s.T j≤m→m<n→s.mem (.el j (s.cur j+1) (ix m (ij C (s.cc j))))=s.mem (.el j (s.cur j) (ix m (s.cc j)))
def s7(s:St)(j:Nat)(b t:Int):Prop:=
 s.B j=b∧t≤b∧0≤b∧(t<b→s.T j+s.L j=b∧s.L j+1≤s.cc j∧∃x:Nat,s.pop j=some x∧s.mem (.el j (s.cur j) (ix b (s.cc j)))=x)
  ∧(t=b→s.T j+s.L j=b+1∧t≤s.T j∧s.L j≤s.cc j)
def n3(C:k8)(s:St)(j:Nat):Prop:=
 match s.pc j with
 | .vR c b=>s.B j=b∧s.T j+s.L j=b∧s.L j≤s.cc j
 | .pJ c b t=>s.B j=b∧s.T j+s.L j=b∧s.L j≤s.cc j∧t≤s.T j∧b-t≤s.cc j
 | .pK c b t=>s.B j=b∧s.T j+s.L j=b∧s.L j≤s.cc j∧t≤s.T j∧b-t≤s.cc j
 | .grow c b t cc=>zD C s j b t cc
 | .nh c b t cc=>zD C s j b t cc
 | .kG c b t cc n=>zD C s j b t cc∧w8 C s j n∧t≤n∧n<b
 | .kO c b t cc n x=>zD C s j b t cc∧w8 C s j n∧t≤n∧n<b∧x=s.mem (.el j (s.cur j) (ix n (s.cc j)))
 | .ni c b t cc=>zD C s j b t cc∧w8 C s j b
 | .kH c b cc=>s.B j=b∧s.T j+s.L j=b∧s.L j+1≤s.cc j∧cc=s.cc j
 | .oC c b=>s.B j=b∧s.T j+s.L j=b∧s.L j+1≤s.cc j∧s.mem (.el j (s.cur j) (ix b (s.cc j)))=c
 | .tH b=>s.B j=b+1∧s.T j+s.L j=b+1∧s.L j≤s.cc j
 | .og b=>s.B j=b+1∧s.T j+s.L j=b+1∧s.L j≤s.cc j
 | .AB b=>s.B j=b∧s.T j+s.L j=b+1∧s.L j≤s.cc j
 | .nQ t=>s.T j=t∧s.L j=0∧s.B j=t-1
 | .sA b t=>s7 s j b t
 | .oR b t cc=>s7 s j b t∧cc=s.cc j
 | .rC b t x=>s.B j=b∧t=b∧s.T j+s.L j=b+1∧t≤s.T j∧(s.T j=t→s.q j=[x.toNat]∧0≤x)∧s.L j≤s.cc j
 | .pR t x wG=>s.B j=t∧s.T j=t+1∧s.L j=0∧(wG=true→s.pop j=some x.toNat∧0≤x)
 | _=>s.B j=s.T j+s.L j∧s.L j≤s.cc j
structure D(C:k8)(s:St)(j:Nat):Prop where
 t0:0≤s.T j
 vx:∀g,g≤s.cur j→1≤s.mem (.cap j g)
 yl:s.cc j≤C.most
 AE:s.mem (.buf j)=s.base j (s.cur j)
 els:∀n,n<(s.q j).length→s.mem (.el j (s.cur j) (ix (s.T j+n) (s.cc j)))=(((s.q j).getD n 0:Nat):Int)
 ph:n3 C s j
def Th(C:k8)(s:St)(i:Nat):Prop:=
 match s.pc i with
 | .oa=>C.N≠1
 | .AD=>C.N≠1
 | .sB v t=>v<C.N∧v≠i∧t≤s.T v
 | .oh v t=>v<C.N∧v≠i∧t≤s.T v∧(t=s.T v→s.q v≠[])
 | .nR v t g=>v<C.N∧v≠i∧t≤s.T v∧g≤s.cur v∧(t=s.T v→∃x l,s.q v=x::l∧s.mem (.el v g (ix t (s.mem (.cap v g))))=(x:Nat))
 | .me v t g cc=>v<C.N∧v≠i∧t≤s.T v∧g≤s.cur v∧cc=s.mem (.cap v g)∧(t=s.T v→∃x l,s.q v=x::l∧s.mem (.el v g (ix t (s.mem (.cap v g))))=(x:Nat))
 | .nj v t x=>v<C.N∧v≠i∧t≤s.T v∧(t=s.T v→∃y l,s.q v=y::l∧x=(y:Nat))
 | _=>True
structure xb(s s':St)(j:Nat):Prop where
 top:s'.mem (.top j)=s.mem (.top j)
 bot:s'.mem (.bot j)=s.mem (.bot j)
 buf:s'.mem (.buf j)=s.mem (.buf j)
 cap:∀g,s'.mem (.cap j g)=s.mem (.cap j g)
 el:∀g n,s'.mem (.el j g n)=s.mem (.el j g n)
 cur:s'.cur j=s.cur j
 base:s'.base j=s.base j
 q:s'.q j=s.q j
 pop:s'.pop j=s.pop j
theorem D.same{C:k8}{s s':St}{j:Nat}(h:D C s j)(e:xb s s' j)(hp:n3 C s' j):D C s' j:=by
 obtain⟨h1,h2,h3,h4,h5,h6⟩:=h
 obtain⟨e1,e2,e3,e4,e5,e6,e7,e8,e9⟩:=e
 refine⟨?_,?_,?_,?_,?_,hp⟩
 ·rw[St.T,e1];exact h1
 ·intro g hg;rw[e4];rw[e6]at hg;exact h2 g hg
 ·rw[St.cc,e6,e4];exact h3
 ·rw[e3,e7,e6];exact h4
 ·intro n hn;simp only[St.T,St.cc,e1,e4,e5,e6,e8];exact h5 n (by rw[e8]at hn;exact hn)
theorem n3.same{C:k8}{s s':St}{j:Nat}(h:n3 C s j)(e:xb s s' j)(hp:s'.pc j=s.pc j):n3 C s' j:=by
 obtain⟨e1,e2,e3,e4,e5,e6,e7,e8,e9⟩:=e
 unfold n3 at h⊢
 simp only[hp,zD,w8,s7,St.T,St.B,St.L,St.cc,e1,e2,e3,e4,e5,e6,e7,e8,e9]at h⊢
 exact h
theorem D.QO{C:k8}{s s':St}{j:Nat}(h:D C s j)(e:xb s s' j)(hp:s'.pc j=s.pc j):D C s' j:=h.same e (h.ph.same e hp)
structure Calm(s s':St)(v:Nat):Prop where
 top:s.T v≤s'.T v
 cur:s.cur v≤s'.cur v
 cap:∀g,g≤s.cur v→s'.mem (.cap v g)=s.mem (.cap v g)
 q:s.T v=s'.T v→∀x l,s.q v=x::l→(∃l',s'.q v=x::l')∧∀g,g≤s.cur v→s.mem (.el v g (ix (s.T v) (s.mem (.cap v g))))=(x:Nat)→s'.mem (.el v g (ix (s.T v) (s.mem (.cap v g))))=(x:Nat)
theorem Th.calm{C:k8}{s s':St}{i:Nat}(h:Th C s i)(e:∀v,v≠i→Calm s s' v)(hp:s'.pc i=s.pc i):Th C s' i:=by
 unfold Th at h⊢
 rw[hp]
 split
 ·rename_i hh;rw[hh]at h;exact h
 ·rename_i hh;rw[hh]at h;exact h
 ·rename_i v t hh;rw[hh]at h;simp only at h
  exact⟨h.1,h.2.1,Int.le_trans h.2.2 (e v h.2.1).top⟩
 ·rename_i v t hh;rw[hh]at h;simp only at h
  have E:=e v h.2.1
  refine⟨h.1,h.2.1,Int.le_trans h.2.2.1 E.top,λht => ?_⟩
  have e1:t=s.T v:=Int.le_antisymm h.2.2.1 (ht▸ E.top)
  obtain⟨x,l,hq⟩:=List.exists_cons_of_ne_nil (h.2.2.2 e1)
  obtain⟨⟨l',h'⟩,_⟩:=E.q (e1.symm.trans ht) x l hq
  rw[h'];exact List.cons_ne_nil _ _
 ·rename_i v t g hh;rw[hh]at h;simp only at h
  have E:=e v h.2.1
  obtain⟨h1,h2,h3,h4,h5⟩:=h
  refine⟨h1,h2,Int.le_trans h3 E.top,Nat.le_trans h4 E.cur,λht => ?_⟩
  have e1:t=s.T v:=Int.le_antisymm h3 (ht▸ E.top)
  obtain⟨x,l,hq,hx⟩:=h5 e1
  obtain⟨⟨l',h'⟩,h''⟩:=E.q (e1.symm.trans ht) x l hq
  refine⟨x,l',h',?_⟩
  rw[E.cap g h4,e1];exact h'' g h4 (by rw[←e1];exact hx)
 ·rename_i v t g cc hh;rw[hh]at h;simp only at h
  have E:=e v h.2.1
  obtain⟨h1,h2,h3,h4,h0,h5⟩:=h
  refine⟨h1,h2,Int.le_trans h3 E.top,Nat.le_trans h4 E.cur,by rw[E.cap g h4];exact h0,λht => ?_⟩
  have e1:t=s.T v:=Int.le_antisymm h3 (ht▸ E.top)
  obtain⟨x,l,hq,hx⟩:=h5 e1
  obtain⟨⟨l',h'⟩,h''⟩:=E.q (e1.symm.trans ht) x l hq
  refine⟨x,l',h',?_⟩
  rw[E.cap g h4,e1];exact h'' g h4 (by rw[←e1];exact hx)
 ·rename_i v t x hh;rw[hh]at h;simp only at h
  have E:=e v h.2.1
  obtain⟨h1,h2,h3,h5⟩:=h
  refine⟨h1,h2,Int.le_trans h3 E.top,λht => ?_⟩
  have e1:t=s.T v:=Int.le_antisymm h3 (ht▸ E.top)
  obtain⟨y,l,hq,hx⟩:=h5 e1
  obtain⟨⟨l',h'⟩,h''⟩:=E.q (e1.symm.trans ht) y l hq
  exact⟨y,l',h',hx⟩
 ·trivial
theorem xb.calm{s s':St}{v:Nat}(e:xb s s' v):Calm s s' v:=by
 obtain⟨e1,e2,e3,e4,e5,e6,e7,e8,e9⟩:=e
 exact⟨by simp only[St.T,e1];exact Int.le_refl _,by rw[e6];exact Nat.le_refl _,λg _=>e4 g,λ_ x l hq=>⟨⟨l,e8▸ hq⟩,λg _ h=>by rw[e5];exact h⟩⟩
def DT(C:k8)(s:St):Prop:=(∀j,j<C.N→D C s j)∧∀i,i<C.N→Th C s i
theorem DT.own{C:k8}{s s':St}{i:Nat}(h:DT C s)(hs:∀j,j≠i→xb s s' j)(hp:∀j,j≠i→s'.pc j=s.pc j)(hd:D C s' i)(hc:Calm s s' i)(ht:Th C s' i):DT C s':=by
 refine⟨λj hj => ?_,λk hk => ?_⟩
 ·by_cases e:j=i
  ·subst e;exact hd
  ·exact(h.1 j hj).QO (hs j e) (hp j e)
 ·by_cases e:k=i
  ·subst e;exact ht
  ·exact(h.2 k hk).calm (λv hv=>by
    by_cases e':v=i
    ·subst e';exact hc
    ·exact(hs v e').calm) (hp k e)
def qR.own:qR→Option Nat
 | .top i | .bot i | .buf i | .cap i _ | .el i _ _=>some i
 | _=>none
theorem xb.of{s s':St}{j:Nat}(hm:∀a,a.own=some j→s'.mem a=s.mem a)(h1:s'.cur j=s.cur j)(h2:s'.base j=s.base j)(h3:s'.q j=s.q j)(h4:s'.pop j=s.pop j):xb s s' j:=
 ⟨hm _ rfl,hm _ rfl,hm _ rfl,λ_=>hm _ rfl,λ_ _=>hm _ rfl,h1,h2,h3,h4⟩
def Idle:Pc→Prop
 | .vR .. | .pJ .. | .pK .. | .grow .. | .nh .. | .kG .. | .kO .. | .ni .. | .kH .. | .oC ..
 | .tH .. | .og .. | .AB .. | .nQ .. | .sA .. | .oR .. | .rC .. | .pR .. => False
 | _=>True
theorem n3.idle{C:k8}{s:St}{j:Nat}(hi:Idle (s.pc j)):n3 C s j↔s.B j=s.T j+s.L j∧s.L j≤s.cc j:=by
 unfold n3
 split<;>rename_i hh<;>first | (rw[hh]at hi;exact hi.elim) | exact Iff.rfl
theorem D.idle{C:k8}{s s':St}{j:Nat}(h:D C s j)(e:xb s s' j)(hi:Idle (s.pc j))(hi':Idle (s'.pc j)):D C s' j:=by
 refine h.same e ((n3.idle hi').2 ?_)
 have:=(n3.idle hi).1 h.ph
 obtain⟨e1,e2,e3,e4,e5,e6,e7,e8,e9⟩:=e
 simpa only [St.T,St.B,St.L,St.cc,e1,e2,e4,e6,e8]using this
theorem DT.fU{C:k8}{s s':St}{i:Nat}(h:DT C s)(hi:i<C.N)(hm:∀a,a.own≠none→s'.mem a=s.mem a)(h1:s'.cur=s.cur)(h2:s'.base=s.base)(h3:s'.q=s.q)(h4:s'.pop=s.pop)
 (hp:∀j,j≠i→s'.pc j=s.pc j) (Vz:Idle (s.pc i)) (Sk:Idle (s'.pc i)) (ht:Th C s' i):DT C s':=by
 have e:∀j,xb s s' j:=λj=>xb.of (λa ha=>hm a (by rw[ha];exact Option.some_ne_none _)) (by rw[h1]) (by rw[h2]) (by rw[h3]) (by rw[h4])
 exact h.own (i:=i) (λj _=>e j) hp ((h.1 i hi).idle (e i) Vz Sk) (e i).calm ht
theorem Th.plain{C:k8}{s:St}{i:Nat}(h:match s.pc i with | .oa | .AD | .sB .. | .oh .. | .nR .. | .me .. | .nj .. => False | _=>True):Th C s i:=by
 unfold Th
 split<;>rename_i hh<;>first | (rw[hh]at h;exact h.elim) | trivial
theorem DT.mine{C:k8}{s s':St}{i:Nat}(h:DT C s)(hi:i<C.N)(hm:∀a,a.own≠some i→s'.mem a=s.mem a)(h1:∀j,j≠i→s'.cur j=s.cur j)(h2:∀j,j≠i→s'.base j=s.base j)(h3:∀j,j≠i→s'.q j=s.q j)(h4:∀j,j≠i→s'.pop j=s.pop j)
 (hp:∀j,j≠i→s'.pc j=s.pc j) (hd:D C s' i) (hc:Calm s s' i) (ht:Th C s' i):DT C s':=
 h.own (i:=i) (λj hj=>xb.of (λa ha=>hm a (by rw[ha];intro e;exact hj (Option.some.inj e))) (h1 j hj) (h2 j hj) (h3 j hj) (h4 j hj)) hp hd hc ht
section
variable {C:k8}{s:St}{i:Nat}
theorem DT.reads{s':St}(h:DT C s)(hi:i<C.N)(hm:s'.mem=s.mem)(h1:s'.cur=s.cur)(h2:s'.base=s.base)(h3:s'.q=s.q)(h4:s'.pop=s.pop)
 (hp:∀j,j≠i→s'.pc j=s.pc j) (hd:n3 C s' i) (ht:Th C s' i):DT C s':=by
 have e:∀j,xb s s' j:=λj=>xb.of (λa _=>by rw[hm]) (by rw[h1]) (by rw[h2]) (by rw[h3]) (by rw[h4])
 exact h.own (i:=i) (λj _=>e j) hp ((h.1 i hi).same (e i) hd) (e i).calm ht
theorem mE{s:St}{i j:Nat}{p:Pc}(h:j≠i):(s.to i p).pc j=s.pc j:=bA h
theorem iR{s:St}{i:Nat}{p:Pc}:(s.to i p).pc i=p:=bQ _ _ _
theorem lf{s:St}{a x:qR}{v:Int}(h:x≠a):(s.wr a v).mem x=s.mem x:=bA h
end
section
variable {C:k8}{s:St}{i:Nat}
theorem D4{cc:Int}(h:cc<C.most)(h1:1≤cc):cc<ij C cc∧ij C cc≤C.most:=by unfold ij;split<;>omega
theorem n3.of{p:Pc}(h:s.pc i=p):n3 C s i=n3 C (s.to i p) i:=by unfold n3;rw[h,iR];rfl
theorem K9(h:DT C s)(hi:i<C.N){c b t cc d}(hp:s.pc i= .grow c b t cc):DT C (step C s i d).s:=by
 have H:=h.1 i hi
 have P:=H.ph;unfold n3 at P;rw[hp]at P;simp only at P
 unfold step;rw[hp];simp only
 have e1:∀g n,g≤s.cur i→(if True∧g=s.cur i+1 then(0:Int)else n)=n:=λg n hg=>fh (by omega)
 refine h.mine hi ?_ (λj hj=>rfl) (λj hj=>bA hj) (λj hj=>rfl) (λj hj=>rfl) (λj hj=>mE hj) ⟨H.t0,?_,?_,?_,?_,?_⟩ ⟨Int.le_refl _,Nat.le_refl _,?_,?_⟩ (Th.plain (by rw[iR];trivial))
 ·intro a ha;simp only[St.to];cases a<;>simp only[qR.own,ne_eq,Option.some.injEq]at ha⊢<;> simp[ha]
 ·intro g hg;simp only[St.to]at hg⊢;rw[e1 g _ hg];exact H.vx g hg
 ·simp only[St.cc,St.to];rw[e1 _ _ (Nat.le_refl _)];exact H.yl
 ·simp only[St.to,bQ];rw[bA (by omega)];exact H.AE
 ·intro n hn;simp only[St.to,St.T,St.cc]at hn⊢;rw[e1 _ _ (Nat.le_refl _),e1 _ _ (Nat.le_refl _)];exact H.els n hn
 ·unfold n3;rw[iR];simp only[zD,St.B,St.T,St.L,St.cc,St.to]at P⊢;rw[e1 _ _ (Nat.le_refl _)];exact P
 ·intro g hg;simp only[St.to];exact e1 g _ hg
 ·intro _ x l hq;refine⟨⟨l,hq⟩,λg hg hx => ?_⟩;simp only[St.to];rw[e1 g _ hg];exact hx
theorem E1(h:DT C s)(hi:i<C.N){c b t cc d}(hp:s.pc i= .nh c b t cc):DT C (step C s i d).s:=by
 have H:=h.1 i hi
 have P:=H.ph;unfold n3 at P;rw[hp]at P;simp only at P
 unfold step;rw[hp];simp only
 have e1:∀g,g≤s.cur i→qR.cap i g≠.cap i (s.cur i+1):=λg hg e=>by injection e;omega
 refine h.mine hi (λa ha => ?_) (λj hj=>rfl) (λj hj=>rfl) (λj hj=>rfl) (λj hj=>rfl) (λj hj=>mE hj) ⟨?_,?_,?_,?_,?_,?_⟩ ⟨?_,Nat.le_refl _,?_,?_⟩ (Th.plain (by rw[iR];trivial))
 ·exact lf (λe=>ha (by rw[e];rfl))
 ·simp only[St.T,St.cc,St.to,St.wr,St.put,St.nZ];rw[bA (by intro e;cases e)];exact H.t0
 ·intro g hg;simp only[St.T,St.cc,St.to,St.wr,St.put,St.nZ];rw[bA (e1 g hg)];exact H.vx g hg
 ·simp only[St.T,St.cc,St.to,St.wr,St.put,St.nZ];rw[bA (e1 _ (Nat.le_refl _))];exact H.yl
 ·simp only[St.T,St.cc,St.to,St.wr,St.put,St.nZ];rw[bA (by intro e;cases e)];exact H.AE
 ·intro n hn;simp only[St.T,St.cc,St.to,St.wr,St.put,St.nZ]at hn⊢;rw[bA (by intro e;cases e),bA (by intro e;cases e),bA (e1 _ (Nat.le_refl _))];exact H.els n hn
 ·unfold n3;rw[iR];simp only[zD,w8,St.B,St.T,St.L,St.cc,St.to,St.wr,bQ]at P⊢
  rw[bA (e1 _ (Nat.le_refl _)),bA (by intro e;cases e),bA (by intro e;cases e)]
  have:=H.vx _ (Nat.le_refl (s.cur i))
  refine⟨P,⟨by rw[P.2.2.2.2.1],λm h1 h2=>by omega⟩,Int.le_refl _,by omega⟩
 ·simp only[St.T,St.cc,St.to,St.wr,St.put,St.nZ];rw[bA (by intro e;cases e)];exact Int.le_refl _
 ·intro g hg;exact lf (e1 g hg)
 ·intro _ x l hq;refine⟨⟨l,hq⟩,λg hg hx => ?_⟩;simp only[St.T,St.cc,St.to,St.wr,St.put,St.nZ];rw[bA (by intro e;cases e)];exact hx
theorem DD(h:DT C s)(hi:i<C.N){c b t cc n d}(hp:s.pc i= .kG c b t cc n):DT C (step C s i d).s:=by
 have H:=h.1 i hi
 have P:=H.ph;unfold n3 at P;rw[hp]at P;simp only at P
 unfold step;rw[hp];simp only
 refine h.reads hi rfl rfl rfl rfl rfl (λj hj=>mE hj) ?_ (Th.plain (by rw[iR];trivial))
 unfold n3;rw[iR];simp only
 exact⟨P.1,P.2.1,P.2.2.1,P.2.2.2,by rw[P.1.2.2.2.2.1];rfl⟩
theorem CS(h:DT C s)(hi:i<C.N){c b t cc n x d}(hp:s.pc i= .kO c b t cc n x):DT C (step C s i d).s:=by
 have H:=h.1 i hi
 have P:=H.ph;unfold n3 at P;rw[hp]at P;simp only at P
 obtain⟨⟨g1,g2,g3,g4,g5,g6,g7⟩,⟨k1,k2⟩,p3,p4,p5⟩:=P
 have c1:=H.vx _ (Nat.le_refl (s.cur i))
 obtain⟨b1,b2⟩:=D4 (C:=C) g7 (by rw[g5];exact c1)
 unfold step;rw[hp];simp only
 have e1:∀g k,g≤s.cur i→qR.el i g k≠.el i (s.cur i+1) (ix n (ij C cc)):=λg k hg e=>by injection e;omega
 refine h.mine hi (λa ha=>lf (λe=>ha (by rw[e];rfl))) (λj hj=>rfl) (λj hj=>rfl) (λj hj=>rfl) (λj hj=>rfl) (λj hj=>mE hj) ⟨?_,?_,?_,?_,?_,?_⟩ ⟨?_,Nat.le_refl _,?_,?_⟩ (Th.plain (by rw[iR];by_cases hb:n+1<b<;>simp[hb]))
 ·simp only[St.T,St.cc,St.to,St.wr,St.put,St.nZ];rw[bA (by intro e;cases e)];exact H.t0
 ·intro g hg;simp only[St.T,St.cc,St.to,St.wr,St.put,St.nZ];rw[bA (by intro e;cases e)];exact H.vx g hg
 ·simp only[St.T,St.cc,St.to,St.wr,St.put,St.nZ];rw[bA (by intro e;cases e)];exact H.yl
 ·simp only[St.T,St.cc,St.to,St.wr,St.put,St.nZ];rw[bA (by intro e;cases e)];exact H.AE
 ·intro n hn;simp only[St.T,St.cc,St.to,St.wr,St.put,St.nZ]at hn⊢;rw[bA (e1 _ _ (Nat.le_refl _)),bA (by intro e;cases e),bA (by intro e;cases e)];exact H.els n hn
 ·have hG:zD C ((s.wr (.el i (s.cur i+1) (ix n (ij C cc))) x).to i (if n+1<b then .kG c b t cc (n+1)else .ni c b t cc)) i b t cc:=by
   simp only[zD,St.B,St.T,St.L,St.cc,St.to,St.wr]at *
   rw[bA (by intro e;cases e),bA (by intro e;cases e),bA (by intro e;cases e)]
   exact⟨g1,g2,g3,g4,g5,g6,g7⟩
  have hC:w8 C ((s.wr (.el i (s.cur i+1) (ix n (ij C cc))) x).to i (if n+1<b then .kG c b t cc (n+1)else .ni c b t cc)) i (n+1):=by
   simp only[w8,St.T,St.cc,St.to,St.wr]at *
   rw[bA (by intro e;cases e),bA (by intro e;cases e),bA (by intro e;cases e)]
   refine⟨k1,λm h1 h2 => ?_⟩
   rw[bA (e1 _ _ (Nat.le_refl _)),←g5]
   by_cases hm:m=n
   ·subst hm;rw[bQ,p5,←g5]
   ·rw[bA (λe=>Nj (m:=m) (n:=n) (c:=ij C cc) (by omega) (by omega) (by omega) hm (by injection e)),g5]
    exact k2 m h1 (by omega)
  unfold n3;rw[iR]
  by_cases hb:n+1<b
  ·simp only[fQ hb]at hG hC⊢;exact⟨hG,hC,by omega,hb⟩
  ·simp only[fh hb]at hG hC⊢;exact⟨hG,by rw[show b=n+1 by omega];rw[show b=n+1 by omega]at hC;exact hC⟩
 ·simp only[St.T,St.cc,St.to,St.wr,St.put,St.nZ];rw[bA (by intro e;cases e)];exact Int.le_refl _
 ·intro g hg;simp only[St.to,St.wr,St.put,St.nZ];rw[bA (by intro e;cases e)]
 ·intro _ x l hq;refine⟨⟨l,hq⟩,λg hg hx => ?_⟩;simp only[St.T,St.cc,St.to,St.wr,St.put,St.nZ];rw[bA (e1 _ _ hg)];exact hx
theorem E2(h:DT C s)(hi:i<C.N){c b t cc d}(hp:s.pc i= .ni c b t cc):DT C (step C s i d).s:=by
 have H:=h.1 i hi
 have P:=H.ph;unfold n3 at P;rw[hp]at P;simp only at P
 obtain⟨⟨g1,g2,g3,g4,g5,g6,g7⟩,⟨k1,k2⟩⟩:=P
 have c1:=H.vx _ (Nat.le_refl (s.cur i))
 obtain⟨b1,b2⟩:=D4 (C:=C) g7 (by rw[g5];exact c1)
 unfold step;rw[hp];simp only
 rw[g5]at b1 b2
 simp only[St.B,St.T,St.L,St.cc]at *
 refine h.mine hi (λa ha=>lf (λe=>ha (by rw[e];rfl))) (λj hj=>bA hj) (λj hj=>rfl) (λj hj=>rfl) (λj hj=>rfl) (λj hj=>mE hj) ⟨?_,?_,?_,?_,?_,?_⟩ ⟨?_,?_,?_,?_⟩ (Th.plain (by rw[iR];trivial))
 ·simp only[St.T,St.cc,St.to,St.wr,St.put,St.nZ];rw[bA (by intro e;cases e)];exact H.t0
 ·intro g hg;simp only[St.T,St.cc,St.to,St.wr,St.put,St.nZ];rw[bA (by intro e;cases e)];simp only[St.to,bQ]at hg
  by_cases e:g=s.cur i+1
  ·rw[e,k1];omega
  ·exact H.vx g (by omega)
 ·simp only[St.cc,St.to,bQ];rw[lf (by intro e;cases e),k1];exact b2
 ·simp only[St.to,bQ];simp only[St.T,St.cc,St.to,St.wr,St.put,St.nZ];exact bQ _ _ _
 ·intro n hn;simp only[St.T,St.cc,St.to,bQ]at hn⊢;rw[lf (by intro e;cases e),lf (by intro e;cases e),lf (by intro e;cases e),k1,k2 _ (by omega) (by simp only[St.L,St.wr]at *;omega)];exact H.els n hn
 ·unfold n3;rw[iR];simp only[St.B,St.T,St.L,St.cc,St.to,St.wr,bQ]at *
  rw[bA (by intro e;cases e),bA (by intro e;cases e),bA (by intro e;cases e),k1,g5]
  exact⟨g1,g2,by omega,rfl⟩
 ·simp only[St.T,St.cc,St.to,St.wr,St.put,St.nZ];rw[bA (by intro e;cases e)];exact Int.le_refl _
 ·simp only[St.to,bQ];omega
 ·intro g hg;simp only[St.to,St.wr,St.put,St.nZ];rw[bA (by intro e;cases e)]
 ·intro _ x l hq;refine⟨⟨l,hq⟩,λg hg hx => ?_⟩;simp only[St.T,St.cc,St.to,St.wr,St.put,St.nZ];rw[bA (by intro e;cases e)];exact hx
theorem DE(h:DT C s)(hi:i<C.N){c b cc d}(hp:s.pc i= .kH c b cc):DT C (step C s i d).s:=by
 have H:=h.1 i hi
 have P:=H.ph;unfold n3 at P;rw[hp]at P;simp only at P
 obtain⟨g1,g2,g3,g4⟩:=P
 have c1:=H.vx _ (Nat.le_refl (s.cur i))
 have E:=H.els
 have t0:=H.t0
 unfold step;rw[hp];simp only
 simp only[St.B,St.T,St.L,St.cc]at *
 refine h.mine hi (λa ha=>lf (λe=>ha (by rw[e];rfl))) (λj hj=>rfl) (λj hj=>rfl) (λj hj=>rfl) (λj hj=>rfl) (λj hj=>mE hj) ⟨?_,?_,?_,?_,?_,?_⟩ ⟨?_,Nat.le_refl _,?_,?_⟩ (Th.plain (by rw[iR];trivial))
 ·simp only[St.T,St.cc,St.to,St.wr,St.put,St.nZ];rw[bA (by intro e;cases e)];exact H.t0
 ·intro g hg;simp only[St.T,St.cc,St.to,St.wr,St.put,St.nZ];rw[bA (by intro e;cases e)];exact H.vx g hg
 ·simp only[St.T,St.cc,St.to,St.wr,St.put,St.nZ];rw[bA (by intro e;cases e)];exact H.yl
 ·simp only[St.T,St.cc,St.to,St.wr,St.put,St.nZ];rw[bA (by intro e;cases e)];exact H.AE
 ·intro n hn;simp only[St.T,St.cc,St.to,St.wr,St.put,St.nZ]at hn⊢
  rw[bA (a:=qR.el i (s.cur i) (ix b cc)) (x:=qR.top i) (by intro e;cases e),bA (x:=qR.cap i (s.cur i)) (by intro e;cases e),g4]
  have hn':n<(s.q i).length:=hn
  rw[bA (λe=>Nj (m:=s.mem (.top i)+n) (n:=b) (c:=s.mem (.cap i (s.cur i))) (by omega) (by omega) (by omega) (by omega) (by injection e))]
  exact E n hn
 ·unfold n3;rw[iR];simp only[St.B,St.T,St.L,St.cc,St.to,St.wr,bQ]at *
  rw[bA (by intro e;cases e),bA (by intro e;cases e),bA (by intro e;cases e),g4,bQ]
  exact⟨g1,g2,by omega,rfl⟩
 ·simp only[St.T,St.cc,St.to,St.wr,St.put,St.nZ];rw[bA (by intro e;cases e)];exact Int.le_refl _
 ·intro g hg;simp only[St.to,St.wr,St.put,St.nZ];rw[bA (by intro e;cases e)]
 ·intro ht x l hq;refine⟨⟨l,hq⟩,λg hg hx => ?_⟩;simp only[St.T,St.cc,St.to,St.wr,St.put,St.nZ]
  have hl:1≤(s.q i).length:=by rw[hq];simp
  by_cases eg:g=s.cur i
  ·subst eg
   rw[bA (λe=>Nj (m:=s.mem (.top i)) (n:=b) (c:=s.mem (.cap i (s.cur i))) (by omega) (by omega) (by omega) (by omega) (by rw[g4]at e;injection e))];exact hx
  ·rw[bA (λe=>eg (by injection e))];exact hx
theorem E3(h:DT C s)(hi:i<C.N){c b d}(hp:s.pc i= .oC c b):DT C (step C s i d).s:=by
 have H:=h.1 i hi
 have P:=H.ph;unfold n3 at P;rw[hp]at P;simp only at P
 obtain⟨g1,g2,g3,g4⟩:=P
 have E:=H.els
 have t0:=H.t0
 unfold step;rw[hp];simp only
 simp only[St.B,St.T,St.L,St.cc]at *
 refine h.mine hi (λa ha=>lf (λe=>ha (by rw[e];rfl))) (λj hj=>rfl) (λj hj=>rfl) (λj hj=>bA hj) (λj hj=>rfl) (λj hj=>mE hj) ⟨?_,?_,?_,?_,?_,?_⟩ ⟨?_,Nat.le_refl _,?_,?_⟩ (Th.plain (by rw[iR];trivial))
 ·simp only[St.T,St.cc,St.to,St.wr,St.put,St.nZ];rw[bA (by intro e;cases e)];exact H.t0
 ·intro g hg;simp only[St.T,St.cc,St.to,St.wr,St.put,St.nZ];rw[bA (by intro e;cases e)];exact H.vx g hg
 ·simp only[St.T,St.cc,St.to,St.wr,St.put,St.nZ];rw[bA (by intro e;cases e)];exact H.yl
 ·simp only[St.T,St.cc,St.to,St.wr,St.put,St.nZ];rw[bA (by intro e;cases e)];exact H.AE
 ·intro n hn;simp only[St.T,St.cc,St.to,St.put,St.nZ,St.wr,bQ]at hn⊢
  rw[bA (by intro e;cases e),bA (by intro e;cases e),bA (by intro e;cases e)]
  rw[List.length_append,List.length_singleton]at hn
  by_cases e:n<(s.q i).length
  ·rw[List.getD_eq_getElem?_getD,List.getElem?_append_left e,←List.getD_eq_getElem?_getD];exact E n e
  ·have:n=(s.q i).length:=by omega
   subst this;rw[List.getD_eq_getElem?_getD,List.getElem?_append_right (Nat.le_refl _)];simp only[Nat.sub_self,List.getElem?_cons_zero,Option.getD_some];rw[g2];exact g4
 ·refine(n3.idle (by rw[iR];trivial)).2 ?_
  simp only[St.B,St.T,St.L,St.cc,St.to,St.put,St.nZ,St.wr,bQ,List.length_append,List.length_singleton]at *
  rw[bA (by intro e;cases e),bA (by intro e;cases e)]
  constructor<;>omega
 ·simp only[St.T,St.cc,St.to,St.wr,St.put,St.nZ];rw[bA (by intro e;cases e)];exact Int.le_refl _
 ·intro g hg;simp only[St.to,St.wr,St.put,St.nZ];rw[bA (by intro e;cases e)]
 ·intro ht x l hq;simp only[St.to,St.put,St.nZ,bQ];refine⟨⟨l++[c],by rw[hq];rfl⟩,λg hg hx => ?_⟩;simp only[St.T,St.cc,St.to,St.wr,St.put,St.nZ]
  rw[bA (by intro e;cases e)];exact hx
end
section
variable {C:k8}{s:St}{i:Nat}
theorem DT.E4{s':St}(h:DT C s)(hi:i<C.N){v:Int}(hm:s'.mem=fE s.mem (.bot i) v)(h1:s'.cur=s.cur)(h2:s'.base=s.base)(h3:s'.q=s.q)(h4:∀j,j≠i→s'.pop j=s.pop j)
 (hp:∀j,j≠i→s'.pc j=s.pc j) (hd:n3 C s' i) (ht:Th C s' i):DT C s':=by
 have H:=h.1 i hi
 have e:∀a,a≠.bot i→s'.mem a=s.mem a:=λa ha=>by rw[hm];exact bA ha
 refine h.mine hi (λa ha=>e a (λe=>ha (by rw[e];rfl))) (λj _=>by rw[h1]) (λj _=>by rw[h2]) (λj _=>by rw[h3]) h4 hp ⟨?_,?_,?_,?_,?_,hd⟩ ⟨?_,by rw[h1];exact Nat.le_refl _,?_,?_⟩ ht
 ·simp only[St.T];rw[e _ (by intro e;cases e)];exact H.t0
 ·intro g hg;rw[e _ (by intro e;cases e)];rw[h1]at hg;exact H.vx g hg
 ·simp only[St.cc,h1];rw[e _ (by intro e;cases e)];exact H.yl
 ·rw[e _ (by intro e;cases e),h1,h2];exact H.AE
 ·intro n hn;simp only[St.T,St.cc,h1,h3]at hn⊢;rw[e _ (by intro e;cases e),e _ (by intro e;cases e),e _ (by intro e;cases e)];exact H.els n hn
 ·simp only[St.T];rw[e _ (by intro e;cases e)];exact Int.le_refl _
 ·intro g hg;rw[e _ (by intro e;cases e)]
 ·intro _ x l hq;refine⟨⟨l,by rw[h3];exact hq⟩,λg hg hx => ?_⟩;rw[e _ (by intro e;cases e)];exact hx
theorem It:∀(l:List Nat) (n:Nat),n+1=l.length→l.getD n 0=l.getLastD 0
 | [],n,h=>by simp at h
 | a::l,n,h=>by
  simp only[List.length_cons]at h
  have:n=l.length:=by omega
  subst this
  rw[List.getLastD_cons,List.getD_eq_getElem?_getD,List.getElem?_eq_getElem (by simp),Option.getD_some,List.getLastD_eq_getLast?,List.getLast?_eq_getElem?]
  cases l with
  | nil=>rfl
  | cons b l=>simp
theorem DF(l:List Nat)(n:Nat)(h:n+1<l.length):l.dropLast.getD n 0=l.getD n 0:=by
 simp only[List.getD_eq_getElem?_getD];rw[List.getElem?_dropLast,fQ (by omega)]
theorem La(h:DT C s)(hi:i<C.N){b d}(hp:s.pc i= .AB b):DT C (step C s i d).s:=by
 have H:=h.1 i hi
 have P:=H.ph;unfold n3 at P;rw[hp]at P;simp only at P
 obtain⟨g1,g2,g3⟩:=P
 have E:=H.els
 have t0:=H.t0
 unfold step;rw[hp];simp only
 simp only[St.B,St.T,St.L,St.cc]at *
 split
 ·rename_i hb
  have hl:((s.q i).length-1)+1=(s.q i).length:=by omega
  have hdl:(s.q i).dropLast.length=(s.q i).length-1:=by simp
  refine h.mine hi (λa ha=>rfl) (λj hj=>rfl) (λj hj=>rfl) (λj hj=>bA hj) (λj hj=>bA hj) (λj hj=>mE hj) ⟨H.t0,H.vx,H.yl,H.AE,?_,?_⟩ ⟨Int.le_refl _,Nat.le_refl _,λ_ _=>rfl,?_⟩ (Th.plain (by simp[St.lJ,St.put,St.nZ,St.to]))
  ·intro n hn;simp only[St.T,St.cc,St.to,St.put,St.nZ,St.lJ,bQ]at hn⊢;rw[hdl]at hn;rw[DF _ _ (by omega)];exact E n (by omega)
  ·unfold n3;simp only[St.lJ,St.put,St.nZ,St.to,bQ,s7,St.B,St.T,St.L,St.cc,hdl]
   refine⟨g1,by omega,by omega,λ_=>⟨by omega,by omega,_,rfl,?_⟩,λe=>by omega⟩
   rw[←It _ _ hl,←E _ (by omega)]
   rw[show s.mem (.top i)+(((s.q i).length-1:Nat):Int)=b by omega]
  ·intro _ x l hq;simp only[St.lJ,St.put,St.nZ,St.to,bQ]
   refine⟨?_,λg hg hx=>hx⟩
   rw[hq]at hl g2⊢
   cases l with
   | nil=>simp at g2;omega
   | cons y l=>exact⟨_,rfl⟩
 ·split
  ·rename_i hn ht
   refine h.reads hi rfl rfl rfl rfl rfl (λj hj=>mE hj) ?_ (Th.plain (by rw[iR];trivial))
   unfold n3;simp only[St.to,bQ,s7,St.B,St.T,St.L,St.cc]
   exact⟨g1,by omega,by omega,λe=>by omega,λ_=>⟨g2,by omega,g3⟩⟩
  ·rename_i hn ht
   refine h.reads hi rfl rfl rfl rfl rfl (λj hj=>mE hj) ?_ (Th.plain (by rw[iR];trivial))
   unfold n3;simp only[St.to,bQ,St.B,St.T,St.L,St.cc]
   exact⟨trivial,by omega,by omega⟩
theorem DG(h:DT C s)(hi:i<C.N){b d}(hp:s.pc i= .og b):DT C (step C s i d).s:=by
 have H:=h.1 i hi
 have P:=H.ph;unfold n3 at P;rw[hp]at P;simp only at P
 obtain⟨g1,g2,g3⟩:=P
 unfold step;rw[hp];simp only
 refine h.E4 hi rfl rfl rfl rfl (λ_ _=>rfl) (λj hj=>mE hj) ?_ (Th.plain (by rw[iR];trivial))
 unfold n3;simp only[St.to,St.wr,bQ,St.B,St.T,St.L,St.cc]at *
 rw[bA (by intro e;cases e),bA (by intro e;cases e)]
 exact⟨trivial,g2,g3⟩
theorem JP{s:St}:(DC s C i).pc i=if C.N=1 then .flag else .oa:=bQ _ _ _
theorem AF{s:St}:Idle ((DC s C i).pc i):=by rw[JP];split<;>trivial
theorem E5{s:St}:Th C (DC s C i) i:=by
 unfold Th;rw[JP]
 by_cases h:C.N=1
 ·rw[fQ h];trivial
 ·rw[fh h];exact h
theorem DH(h:DT C s)(hi:i<C.N){t d}(hp:s.pc i= .nQ t):DT C (step C s i d).s:=by
 have H:=h.1 i hi
 have P:=H.ph;unfold n3 at P;rw[hp]at P;simp only at P
 obtain⟨g1,g2,g3⟩:=P
 have c1:=H.vx _ (Nat.le_refl (s.cur i))
 unfold step;rw[hp];simp only
 refine h.E4 hi rfl rfl rfl rfl (λ_ _=>rfl) (λj hj=>bA hj) ((n3.idle AF).2 ?_) E5
 simp only[DC,St.to,St.wr,St.pS,bQ,St.B,St.T,St.L,St.cc]at *
 rw[bA (by intro e;cases e),bA (by intro e;cases e)]
 exact⟨by omega,by omega⟩
theorem E6(h:DT C s)(hi:i<C.N){b t cc d}(hp:s.pc i= .oR b t cc):DT C (step C s i d).s:=by
 have H:=h.1 i hi
 have P:=H.ph;unfold n3 at P;rw[hp]at P;simp only[s7]at P
 obtain⟨⟨g1,g2,g3,g4,g5⟩,g6⟩:=P
 unfold step;rw[hp];simp only
 have E:=H.els
 split
 ·rename_i hb
  obtain⟨k1,k2,k3⟩:=g4 hb
  refine h.mine hi (λa ha=>rfl) (λj hj=>rfl) (λj hj=>rfl) (λj hj=>rfl) (λj hj=>bA hj) (λj hj=>bA hj) ⟨H.t0,H.vx,H.yl,H.AE,E,?_⟩ ⟨Int.le_refl _,Nat.le_refl _,λ_ _=>rfl,?_⟩ (Th.plain (by simp[got,St.lJ,St.put,St.holds,St.to]))
  ·refine(n3.idle (by simp[got,St.lJ,St.put,St.holds,St.to,Idle])).2 ?_
   simp only[got,St.lJ,St.put,St.holds,St.to,St.B,St.T,St.L,St.cc]at *
   exact⟨by omega,by omega⟩
  ·intro _ x l hq;exact⟨⟨l,hq⟩,λg hg hx=>hx⟩
 ·rename_i hb
  have e:t=b:=by omega
  obtain⟨k1,k2,k3⟩:=g5 e
  refine h.reads hi rfl rfl rfl rfl rfl (λj hj=>mE hj) ?_ (Th.plain (by rw[iR];trivial))
  unfold n3;simp only[St.to,bQ,St.B,St.T,St.L,St.cc]at *
  refine⟨g1,e,k1,k2,λht => ?_,k3⟩
  have hl:(s.q i).length=1:=by omega
  obtain⟨x,hx⟩:=List.length_eq_one_iff.1 hl
  have:=E 0 (by omega)
  rw[hx]at this;simp only[List.getD_cons_zero]at this
  rw[show s.mem (.top i)+((0:Nat):Int)=b by omega,←g6]at this
  rw[this,hx];exact⟨rfl,by omega⟩
theorem GH(h:DT C s)(hi:i<C.N){b t x d}(hp:s.pc i= .rC b t x):DT C (step C s i d).s:=by
 have H:=h.1 i hi
 have P:=H.ph;unfold n3 at P;rw[hp]at P;simp only at P
 obtain⟨g1,g2,g3,g4,g5,g6⟩:=P
 have t0:=H.t0
 have c1:=H.vx _ (Nat.le_refl (s.cur i))
 unfold step;rw[hp];simp only
 simp only[St.B,St.T,St.L,St.cc]at *
 split
 ·rename_i ht
  obtain⟨k1,k2⟩:=g5 ht
  refine h.mine hi (λa ha=>lf (λe=>ha (by rw[e];rfl))) (λj hj=>rfl) (λj hj=>rfl) (λj hj=>bA hj) (λj hj=>bA hj) (λj hj=>bA hj) ⟨?_,?_,?_,?_,?_,?_⟩ ⟨?_,Nat.le_refl _,?_,?_⟩ (Th.plain (by simp[St.lJ,St.put,St.nZ,St.to]))
  ·simp only[St.T,St.lJ,St.put,St.nZ,St.to,St.wr,bQ];omega
  ·intro g hg;simp only[St.lJ,St.put,St.nZ,St.to,St.wr];rw[bA (by intro e;cases e)];exact H.vx g hg
  ·simp only[St.cc,St.lJ,St.put,St.nZ,St.to,St.wr];rw[bA (by intro e;cases e)];exact H.yl
  ·simp only[St.lJ,St.put,St.nZ,St.to,St.wr];rw[bA (by intro e;cases e)];exact H.AE
  ·intro n hn;simp[St.lJ,St.put,St.nZ,St.to]at hn
  ·unfold n3;simp only[St.lJ,St.put,St.nZ,St.to,bQ,St.B,St.T,St.L,St.cc,St.wr]
   rw[bA (by intro e;cases e)]
   exact⟨by omega,trivial,by simp,λ_=>⟨trivial,k2⟩⟩
  ·simp only[St.T,St.lJ,St.put,St.nZ,St.to,St.wr,bQ];omega
  ·intro g hg;simp only[St.lJ,St.put,St.nZ,St.to,St.wr];rw[bA (by intro e;cases e)]
  ·intro ht' ;simp only[St.T,St.lJ,St.put,St.nZ,St.to,St.wr,bQ]at ht';omega
 ·rename_i ht
  refine h.reads hi rfl rfl rfl rfl rfl (λj hj=>mE hj) ?_ (Th.plain (by rw[iR];trivial))
  unfold n3;simp only[St.to,bQ,St.B,St.T,St.L,St.cc]at *
  exact⟨by omega,by omega,by omega,λe=>Bool.noConfusion e⟩
theorem GI(h:DT C s)(hi:i<C.N){t x wG d}(hp:s.pc i= .pR t x wG):DT C (step C s i d).s:=by
 have H:=h.1 i hi
 have P:=H.ph;unfold n3 at P;rw[hp]at P;simp only at P
 obtain⟨g1,g2,g3,g4⟩:=P
 have c1:=H.vx _ (Nat.le_refl (s.cur i))
 unfold step;rw[hp];simp only
 cases wG
 ·refine h.E4 hi rfl rfl rfl rfl (λ_ _=>rfl) (λj hj=>bA hj) ((n3.idle AF).2 ?_) E5
  simp only[DC,St.to,St.wr,St.pS,bQ,St.B,St.T,St.L,St.cc,Bool.false_eq_true,if_false]at *
  rw[bA (by intro e;cases e),bA (by intro e;cases e)]
  exact⟨by omega,by omega⟩
 ·refine h.E4 hi rfl rfl rfl rfl (λj hj=>bA hj) (λj hj=>bA hj) ((n3.idle (by simp[got,St.lJ,St.put,St.holds,St.to,Idle])).2 ?_) (Th.plain (by simp[got,St.lJ,St.put,St.holds,St.to]))
  simp only[got,St.to,St.wr,St.pS,St.lJ,St.put,St.holds,bQ,St.B,St.T,St.L,St.cc,if_true]at *
  rw[bA (by intro e;cases e),bA (by intro e;cases e)]
  exact⟨by omega,by omega⟩
theorem D.Sl{s':St}{v:Nat}{x:Nat}{l:List Nat}(H:D C s v)(hq:s.q v=x::l)(hm:s'.mem=fE s.mem (.top v) (s.T v+1))(h1:s'.cur=s.cur)(h2:s'.base=s.base)(h3:s'.q v=l)(h4:s'.pop v=s.pop v)(hp:s'.pc v=s.pc v):D C s' v:=by
 have e:∀a,a≠.top v→s'.mem a=s.mem a:=λa ha=>by rw[hm];exact bA ha
 have et:s'.mem (.top v)=s.mem (.top v)+1:=by rw[hm];exact bQ _ _ _
 have E:=H.els
 have t0:=H.t0
 have eb:=e (.bot v) (by intro e;cases e)
 have ec:=λg=>e (.cap v g) (by intro e;cases e)
 have ee:=λg n=>e (.el v g n) (by intro e;cases e)
 have hl:(s.q v).length=l.length+1:=by rw[hq];rfl
 have P:=H.ph
 refine⟨?_,?_,?_,?_,?_,?_⟩
 ·simp only[St.T]at *;rw[et];omega
 ·intro g hg;rw[ec];rw[h1]at hg;exact H.vx g hg
 ·simp only[St.cc,h1];rw[ec];exact H.yl
 ·rw[e _ (by intro e;cases e),h1,h2];exact H.AE
 ·intro n hn;rw[h3]at hn;simp only[St.T,St.cc,h1,h3]at *;rw[ee,ec,et]
  have:=E (n+1) (by omega)
  rw[hq]at this;simp only[List.getD_cons_succ]at this
  rw[←this,show s.mem (.top v)+1+(n:Int)=s.mem (.top v)+((n+1:Nat):Int) by omega]
 ·unfold n3 at P⊢;rw[hp]
  simp only[zD,w8,s7,St.B,St.T,St.L,St.cc,h1,h3,h4,et,eb,ec,ee]at P⊢
  rw[hl]at P
  split<;>rename_i hh<;>simp only[hh]at P<;>try omega
  ·refine⟨by omega,⟨P.2.1.1,λm a b=>P.2.1.2 m (by omega) b⟩,by omega⟩
  ·refine⟨by omega,⟨P.2.1.1,λm a b=>P.2.1.2 m (by omega) b⟩,P.2.2.1,P.2.2.2.1,P.2.2.2.2⟩
  ·refine⟨by omega,⟨P.2.1,λm a b=>P.2.2 m (by omega) b⟩⟩
  ·refine⟨P.1,P.2.1,P.2.2.1,λhb => ?_,λhb => ?_⟩
   ·obtain⟨a1,a2,a3⟩:=P.2.2.2.1 hb;exact⟨by omega,by omega,a3⟩
   ·obtain⟨a1,a2,a3⟩:=P.2.2.2.2 hb;exact⟨by omega,by omega,by omega⟩
  ·refine⟨⟨P.1.1,P.1.2.1,P.1.2.2.1,λhb => ?_,λhb => ?_⟩,P.2⟩
   ·obtain⟨a1,a2,a3⟩:=P.1.2.2.2.1 hb;exact⟨by omega,by omega,a3⟩
   ·obtain⟨a1,a2,a3⟩:=P.1.2.2.2.2 hb;exact⟨by omega,by omega,by omega⟩
end
section
variable {C:k8}{s:St}{i:Nat}
theorem ne1{v:Nat}(hi:i<C.N)(hv:v<C.N)(h:v≠i):C.N≠1:=by omega
theorem DI(h:DT C s)(hi:i<C.N){v t x d}(hp:s.pc i= .nj v t x):DT C (step C s i d).s:=by
 have P:=h.2 i hi;unfold Th at P;rw[hp]at P;simp only at P
 obtain⟨g1,g2,g3,g4⟩:=P
 have Hv:=h.1 v g1
 have Hi:=h.1 i hi
 unfold step;rw[hp];simp only
 split
 ·rename_i ht
  obtain⟨y,l,hq,hx⟩:=g4 ht.symm
  have ep:∀j,j≠i→(got ((s.wr (.top v) (t+1)).nZ v (s.q v).tail) i x v).pc j=s.pc j:=λj hj=>bA hj
  have em:∀a,a≠.top v→(got ((s.wr (.top v) (t+1)).nZ v (s.q v).tail) i x v).mem a=s.mem a:=λa ha=>bA ha
  have eS:∀j,j≠v→xb s (got ((s.wr (.top v) (t+1)).nZ v (s.q v).tail) i x v) j:=λj hj=>xb.of (λa ha=>em a (λe=>hj (by rw[e]at ha;exact(Option.some.inj ha).symm))) rfl rfl (bA hj) rfl
  refine⟨λj hj => ?_,λk hk => ?_⟩
  ·by_cases e:j=v
   ·subst e;exact Hv.Sl hq (by rw[St.T,ht];rfl) rfl rfl (by show(fE s.q j (s.q j).tail) j=l;rw[bQ,hq];rfl) rfl (bA g2)
   ·by_cases e':j=i
    ·subst e'
     have hI:Idle (s.pc j):=by rw[hp];trivial
     refine Hi.idle (s':=got ((s.wr (.top v) (t+1)).nZ v (s.q v).tail) j x v) ?_ hI (by simp[got,St.put,St.holds,St.to,Idle])
     ·exact xb.of (λa ha=>em a (λe=>by rw[e]at ha;exact g2 (Option.some.inj ha))) rfl rfl (bA e) rfl
    ·exact(h.1 j hj).QO (eS j e) (ep j e')
  ·by_cases e:k=i
   ·subst e;exact Th.plain (by simp[got,St.lJ,St.put,St.holds,St.to])
   ·refine(h.2 k hk).calm (λj hj => ?_) (ep k e)
    by_cases e':j=v
    ·subst e';refine⟨?_,Nat.le_refl _,λg hg=>em _ (by intro e;cases e),λhT => ?_⟩
     ·show s.mem (.top j)≤fE s.mem (.top j) (t+1) (.top j);rw[bQ];omega
     ·have:s.mem (.top j)=fE s.mem (.top j) (t+1) (.top j):=hT
      rw[bQ]at this;omega
    ·exact(eS j e').calm
 ·refine h.fU hi (λ_ _=>rfl) rfl rfl rfl rfl (λj hj=>mE hj) (by rw[hp];trivial) (by rw[iR];trivial) (by unfold Th;rw[iR];exact ne1 hi g1 g2)
theorem Lb(hi:i<C.N)(hN:C.N≠1)(d:Int):(i+1+(d%((C.N:Int)-1)).toNat)%C.N<C.N∧(i+1+(d%((C.N:Int)-1)).toNat)%C.N≠i:=by
 have h1:=Int.emod_nonneg d (b:=(C.N:Int)-1) (by omega)
 have h2:=Int.emod_lt_of_pos d (b:=(C.N:Int)-1) (by omega)
 generalize hr:(d%((C.N:Int)-1)).toNat=r
 have Rj:r<C.N-1:=by omega
 refine⟨Nat.mod_lt _ (by omega),?_⟩
 by_cases h:i+1+r<C.N
 ·rw[Nat.mod_eq_of_lt h];omega
 ·rw[Nat.mod_eq_sub_mod (by omega),Nat.mod_eq_of_lt (by omega)];omega
theorem D.bot_le{j:Nat}(h:D C s j):s.B j≤s.T j+s.L j:=by
 have P:=h.ph
 unfold n3 at P
 split at P<;>simp only[zD,s7,St.B,St.T,St.L,St.cc]at * <;> first
  | omega
  | (rcases Int.lt_or_eq_of_le P.2.1 with e | e
     ·have:=P.2.2.2.1 e;omega
     ·have:=P.2.2.2.2 e;omega)
  | (rcases Int.lt_or_eq_of_le P.1.2.1 with e | e
     ·have:=P.1.2.2.2.1 e;omega
     ·have:=P.1.2.2.2.2 e;omega)
def Far:Pc→Prop
 | .oa | .AD | .sB .. | .oh .. | .nR .. | .me .. | .nj .. => False
 | _=>True
theorem DT.mK{s':St}{p:Pc}(h:DT C s)(hi:i<C.N)(hm:∀a,a.own≠none→s'.mem a=s.mem a)(h1:s'.cur=s.cur)(h2:s'.base=s.base)(h3:s'.q=s.q)(h4:s'.pop=s.pop)
 (hp:s'.pc=fE s.pc i p) (Vz:Idle (s.pc i)) (Sk:Idle p) (hf:Far p):DT C s':=by
 have e:s'.pc i=p:=by rw[hp];exact bQ _ _ _
 refine h.fU hi hm h1 h2 h3 h4 (λj hj=>by rw[hp];exact bA hj) Vz (by rw[e];exact Sk) (Th.plain ?_)
 rw[e];cases p<;>first | exact hf | trivial
theorem DT.Iu{s':St}(h:DT C s)(hi:i<C.N)(hm:∀a,a.own≠none→s'.mem a=s.mem a)(h1:s'.cur=s.cur)(h2:s'.base=s.base)(h3:s'.q=s.q)(h4:s'.pop=s.pop)
 (hp:s'.pc=s.pc) (Vz:Idle (s.pc i)):DT C (DC s' C i):=
 h.fU hi hm h1 h2 h3 h4 (λj hj=>by show fE s'.pc i _ j=s.pc j;rw[bA hj,hp]) Vz AF E5
theorem DT.same{s':St}(h:DT C s)(hi:i<C.N)(hm:∀a,a.own≠none→s'.mem a=s.mem a)(h1:s'.cur=s.cur)(h2:s'.base=s.base)(h3:s'.q=s.q)(h4:s'.pop=s.pop)(hp:s'.pc=s.pc)(hr:s.pc i= .run):DT C s':=
 h.fU hi hm h1 h2 h3 h4 (λj hj=>by rw[hp]) (by rw[hr];trivial) (by rw[hp,hr];trivial) (Th.plain (by rw[hp,hr];trivial))
theorem Iv(h:DT C s)(hi:i<C.N)(hp:s.pc i= .run):DT C (instr C s i).s:=by
 unfold instr;simp only
 split
 ·exact h.same hi (λ_ _=>rfl) rfl rfl rfl rfl rfl hp
 ·exact h.same hi (λ_ _=>rfl) rfl rfl rfl rfl rfl hp
 ·exact h.same hi (λ_ _=>rfl) rfl rfl rfl rfl rfl hp
 ·exact h.same hi (λ_ _=>rfl) rfl rfl rfl rfl rfl hp
 ·exact h.same hi (λ_ _=>rfl) rfl rfl rfl rfl rfl hp
 ·exact h.same hi (λ_ _=>rfl) rfl rfl rfl rfl rfl hp
 ·exact h.same hi (λ_ _=>rfl) rfl rfl rfl rfl rfl hp
 ·split
  ·exact DT.mK h hi (by intro a ha;exact lf (by intro e;rw[e]at ha;exact ha rfl)) rfl rfl rfl rfl rfl (by rw[hp];trivial) trivial trivial
  ·exact DT.mK h hi (by intro a ha;exact lf (by intro e;rw[e]at ha;exact ha rfl)) rfl rfl rfl rfl rfl (by rw[hp];trivial) trivial trivial
 ·split
  ·exact DT.mK h hi (by intro a ha;exact lf (by intro e;rw[e]at ha;exact ha rfl)) rfl rfl rfl rfl rfl (by rw[hp];trivial) trivial trivial
  ·exact DT.mK h hi (by intro a ha;exact lf (by intro e;rw[e]at ha;exact ha rfl)) rfl rfl rfl rfl rfl (by rw[hp];trivial) trivial trivial
 ·split
  ·exact DT.mK h hi (by intro a ha;exact lf (by intro e;rw[e]at ha;exact ha rfl)) rfl rfl rfl rfl rfl (by rw[hp];trivial) trivial trivial
  ·exact DT.mK h hi (by intro a ha;exact lf (by intro e;rw[e]at ha;exact ha rfl)) rfl rfl rfl rfl rfl (by rw[hp];trivial) trivial trivial
theorem DT.step(h:DT C s)(hi:i<C.N)(d:Int):DT C (step C s i d).s:=by
 have H:=h.1 i hi
 have HT:=h.2 i hi
 have P:=H.ph
 cases hp:s.pc i with
 | grow=>exact K9 h hi hp
 | nh=>exact E1 h hi hp
 | kG=>exact DD h hi hp
 | kO=>exact CS h hi hp
 | ni=>exact E2 h hi hp
 | kH=>exact DE h hi hp
 | oC=>exact E3 h hi hp
 | AB=>exact La h hi hp
 | og=>exact DG h hi hp
 | nQ=>exact DH h hi hp
 | oR=>exact E6 h hi hp
 | rC=>exact GH h hi hp
 | pR=>exact GI h hi hp
 | nj=>exact DI h hi hp
 | halted=>unfold Am.step;rw[hp];exact h
 | full=>unfold Am.step;rw[hp];exact h
 | zA c =>
  unfold Am.step;rw[hp]
  refine h.reads hi rfl rfl rfl rfl rfl (λj hj=>mE hj) ?_ (Th.plain (by rw[iR];trivial))
  have:=(n3.idle (by rw[hp];trivial)).1 P
  unfold n3;simp only[St.to,bQ,St.B,St.T,St.L,St.cc]at *
  exact⟨trivial,this.1.symm,this.2⟩
 | vR c b =>
  unfold Am.step;rw[hp]
  refine h.reads hi rfl rfl rfl rfl rfl (λj hj=>mE hj) ?_ (Th.plain (by rw[iR];trivial))
  unfold n3 at P⊢;rw[hp]at P;simp only[St.to,bQ,St.B,St.T,St.L,St.cc]at *
  exact⟨P.1,P.2.1,P.2.2,Int.le_refl _,by omega⟩
 | pJ c b t =>
  unfold Am.step;rw[hp]
  refine h.reads hi rfl rfl rfl rfl rfl (λj hj=>mE hj) ?_ (Th.plain (by rw[iR];trivial))
  unfold n3 at P⊢;rw[hp]at P;simp only[St.to,bQ,St.B,St.T,St.L,St.cc]at *
  exact P
 | pK c b t =>
  unfold Am.step;rw[hp];simp only
  unfold n3 at P;rw[hp]at P;simp only at P
  split
  ·refine h.reads hi rfl rfl rfl rfl rfl (λj hj=>mE hj) ?_ (Th.plain (by rw[iR];trivial))
   unfold n3;simp only[St.to,bQ,St.B,St.T,St.L,St.cc]at *
   exact⟨P.1,P.2.1,by omega,gE⟩
  ·split
   ·refine h.reads hi rfl rfl rfl rfl rfl (λj hj=>mE hj) ?_ (Th.plain (by rw[iR];trivial))
    refine(n3.idle (by rw[iR];trivial)).2 ?_
    simp only[St.to,bQ,St.B,St.T,St.L,St.cc]at *
    exact⟨by omega,P.2.2.1⟩
   ·refine h.reads hi rfl rfl rfl rfl rfl (λj hj=>mE hj) ?_ (Th.plain (by rw[iR];trivial))
    unfold n3;simp only[zD,St.to,bQ,St.B,St.T,St.L,St.cc]at *
    exact⟨P.1,P.2.1,P.2.2.1,P.2.2.2.1,trivial,by omega,by omega⟩
 | CR =>
  unfold Am.step;rw[hp]
  refine h.reads hi rfl rfl rfl rfl rfl (λj hj=>mE hj) ?_ (Th.plain (by rw[iR];trivial))
  have:=(n3.idle (by rw[hp];trivial)).1 P
  unfold n3;simp only[St.to,bQ,St.B,St.T,St.L,St.cc]at *
  exact⟨by omega,by omega,this.2⟩
 | tH b =>
  unfold Am.step;rw[hp]
  refine h.reads hi rfl rfl rfl rfl rfl (λj hj=>mE hj) ?_ (Th.plain (by rw[iR];trivial))
  unfold n3 at P⊢;rw[hp]at P;simp only[St.to,bQ,St.B,St.T,St.L,St.cc]at *
  exact P
 | sA b t =>
  unfold Am.step;rw[hp]
  refine h.reads hi rfl rfl rfl rfl rfl (λj hj=>mE hj) ?_ (Th.plain (by rw[iR];trivial))
  unfold n3 at P⊢;rw[hp]at P;simp only[s7,St.to,bQ,St.B,St.T,St.L,St.cc]at *
  exact⟨P,gE⟩
 | oa =>
  have hN:C.N≠1:=by unfold Th at HT;rw[hp]at HT;exact HT
  unfold Am.step;rw[hp];simp only
  have hv:=Lb hi hN d
  refine h.fU hi (λ_ _=>rfl) rfl rfl rfl rfl (λj hj=>mE hj) (by rw[hp];trivial) (by rw[iR];trivial) ?_
  unfold Th;rw[iR];exact⟨hv.1,hv.2,Int.le_refl _⟩
 | sB v t =>
  unfold Th at HT;rw[hp]at HT;simp only at HT
  unfold Am.step;rw[hp];simp only
  split
  ·refine h.fU hi (λ_ _=>rfl) rfl rfl rfl rfl (λj hj=>mE hj) (by rw[hp];trivial) (by rw[iR];trivial) ?_
   unfold Th;rw[iR];exact ne1 hi HT.1 HT.2.1
  ·rename_i hb
   refine h.fU hi (λ_ _=>rfl) rfl rfl rfl rfl (λj hj=>mE hj) (by rw[hp];trivial) (by rw[iR];trivial) ?_
   unfold Th;rw[iR]
   refine⟨HT.1,HT.2.1,HT.2.2,λht => ?_⟩
   have hB:=(h.1 v HT.1).bot_le
   intro hq
   have hB:s.B v≤s.T v+s.L v:=hB
   have:s.L v=0:=by show((s.q v).length:Int)=0;rw[show s.q v=[]from hq];rfl
   have ht':t=s.T v:=ht
   simp only[St.B]at hB
   omega
 | oh v t =>
  unfold Th at HT;rw[hp]at HT;simp only at HT
  unfold Am.step;rw[hp];simp only
  refine h.fU hi (λ_ _=>rfl) rfl rfl rfl rfl (λj hj=>mE hj) (by rw[hp];trivial) (by rw[iR];trivial) ?_
  unfold Th;rw[iR]
  refine⟨HT.1,HT.2.1,HT.2.2.1,Nat.le_refl _,λht => ?_⟩
  obtain⟨x,l,hq⟩:=List.exists_cons_of_ne_nil (HT.2.2.2 ht)
  refine⟨x,l,hq,?_⟩
  have:=(h.1 v HT.1).els 0 (by rw[hq];simp)
  rw[hq]at this
  have ht':t=s.T v:=ht
  simp only[St.T,St.cc,List.getD_cons_zero]at this ht'
  rw[ht']
  simpa [St.to]using this
 | nR v t g =>
  unfold Th at HT;rw[hp]at HT;simp only at HT
  unfold Am.step;rw[hp];simp only
  refine h.fU hi (λ_ _=>rfl) rfl rfl rfl rfl (λj hj=>mE hj) (by rw[hp];trivial) (by rw[iR];trivial) ?_
  unfold Th;rw[iR]
  exact⟨HT.1,HT.2.1,HT.2.2.1,HT.2.2.2.1,rfl,HT.2.2.2.2⟩
 | me v t g cc =>
  unfold Th at HT;rw[hp]at HT;simp only at HT
  unfold Am.step;rw[hp];simp only
  refine h.fU hi (λ_ _=>rfl) rfl rfl rfl rfl (λj hj=>mE hj) (by rw[hp];trivial) (by rw[iR];trivial) ?_
  unfold Th;rw[iR]
  refine⟨HT.1,HT.2.1,HT.2.2.1,λht => ?_⟩
  obtain⟨x,l,hq,hx⟩:=HT.2.2.2.2.2 ht
  exact⟨x,l,hq,by rw[HT.2.2.2.2.1];exact hx⟩
 | AD =>
  have hN:C.N≠1:=by unfold Th at HT;rw[hp]at HT;exact HT
  unfold Am.step;rw[hp];simp only
  split
  ·exact h.fU hi (λ_ _=>rfl) rfl rfl rfl rfl (λj hj=>mE hj) (by rw[hp];trivial) (by rw[iR];trivial) (Th.plain (by rw[iR];trivial))
  ·refine h.fU hi (λ_ _=>rfl) rfl rfl rfl rfl (λj hj=>mE hj) (by rw[hp];trivial) (by rw[iR];split<;>trivial) ?_
   unfold Th;rw[iR]
   by_cases h3:s.tries i<3
   ·simp only[fQ h3];exact hN
   ·simp only[fh h3]
 | run =>
  unfold Am.step;rw[hp];simp only
  exact Iv h hi hp
 | tell j =>
  unfold Am.step;rw[hp];simp only[nk]
  split
  ·exact DT.mK h hi (by intro a ha;exact lf (by intro e;rw[e]at ha;exact ha rfl)) rfl rfl rfl rfl rfl (by rw[hp];trivial) trivial trivial
  ·split
   ·exact DT.mK h hi (λ_ _=>rfl) rfl rfl rfl rfl rfl (by rw[hp];trivial) trivial trivial
   ·exact DT.mK h hi (λ_ _=>rfl) rfl rfl rfl rfl rfl (by rw[hp];trivial) trivial trivial
 | ug j =>
  unfold Am.step;rw[hp];simp only[nk]
  split<;>exact DT.mK h hi (by intro a ha;exact lf (by intro e;rw[e]at ha;exact ha rfl)) rfl rfl rfl rfl rfl (by rw[hp];trivial) trivial trivial
 | done =>
  unfold Am.step;rw[hp];simp only[nk]
  split<;>exact DT.mK h hi (by intro a ha;exact lf (by intro e;rw[e]at ha;exact ha rfl)) rfl rfl rfl rfl rfl (by rw[hp];trivial) trivial trivial
 | out p c =>
  unfold Am.step;rw[hp];simp only
  split<;>exact DT.mK h hi (by intro a ha;exact lf (by intro e;rw[e]at ha;exact ha rfl)) rfl rfl rfl rfl rfl (by rw[hp];trivial) trivial trivial
 | DA =>
  unfold Am.step;rw[hp];simp only
  refine DT.mK h hi (λ_ _=>rfl) rfl rfl rfl rfl rfl (by rw[hp];trivial) ?_ ?_<;>split<;>trivial
 | qG j =>
  unfold Am.step;rw[hp];simp only
  split
  ·exact DT.mK h hi (by intro a ha;exact lf (by intro e;rw[e]at ha;exact ha rfl)) rfl rfl rfl rfl rfl (by rw[hp];trivial) trivial trivial
  ·refine DT.mK h hi (λ_ _=>rfl) rfl rfl rfl rfl rfl (by rw[hp];trivial) ?_ ?_<;>split<;>trivial
 | so =>
  unfold Am.step;rw[hp];simp only[looking]
  split
  ·exact DT.mK h hi (λ_ _=>rfl) rfl rfl rfl rfl rfl (by rw[hp];trivial) trivial trivial
  ·split<;>exact DT.mK h hi (λ_ _=>rfl) rfl rfl rfl rfl rfl (by rw[hp];trivial) trivial trivial
 | zB j t =>
  unfold Am.step;rw[hp];simp only[looking]
  split
  ·exact DT.mK h hi (λ_ _=>rfl) rfl rfl rfl rfl rfl (by rw[hp];trivial) trivial trivial
  ·split<;>exact DT.mK h hi (λ_ _=>rfl) rfl rfl rfl rfl rfl (by rw[hp];trivial) trivial trivial
 | parked =>
  unfold Am.step;rw[hp];simp only
  split
  ·exact h
  ·exact DT.Iu h hi (s':=s.pS i 0) (λ_ _=>rfl) rfl rfl rfl rfl rfl (by rw[hp];trivial)
 | back b =>
  unfold Am.step;rw[hp];simp only[zC]
  split
  ·exact DT.mK h hi (by intro a ha;exact lf (by intro e;rw[e]at ha;exact ha rfl)) rfl rfl rfl rfl rfl (by rw[hp];trivial) trivial trivial
  ·split
   ·exact DT.mK h hi (λ_ _=>rfl) rfl rfl rfl rfl rfl (by rw[hp];trivial) trivial trivial
   ·exact DT.Iu h hi (s':=s.pS i 0) (λ_ _=>rfl) rfl rfl rfl rfl rfl (by rw[hp];trivial)
 | s6 b =>
  unfold Am.step;rw[hp];simp only[zC]
  split
  ·exact DT.mK h hi (by intro a ha;exact lf (by intro e;rw[e]at ha;exact ha rfl)) rfl rfl rfl rfl rfl (by rw[hp];trivial) trivial trivial
  ·exact DT.Iu h hi (s':=(s.wr .qa (s.mem .qa-1)).pS i 0) (by intro a ha;exact lf (by intro e;rw[e]at ha;exact ha rfl)) rfl rfl rfl rfl rfl (by rw[hp];trivial)
 | start x=>unfold Am.step;rw[hp];exact DT.mK h hi (by intro a ha;exact lf (by intro e;rw[e]at ha;exact ha rfl)) rfl rfl rfl rfl rfl (by rw[hp];trivial) trivial trivial
 | fork c=>unfold Am.step;rw[hp];exact DT.mK h hi (by intro a ha;exact lf (by intro e;rw[e]at ha;exact ha rfl)) rfl rfl rfl rfl rfl (by rw[hp];trivial) trivial trivial
 | pI=>unfold Am.step;rw[hp];exact DT.mK h hi (by intro a ha;exact lf (by intro e;rw[e]at ha;exact ha rfl)) rfl rfl rfl rfl rfl (by rw[hp];trivial) trivial trivial
 | take p c=>unfold Am.step;rw[hp];exact DT.mK h hi (by intro a ha;exact lf (by intro e;rw[e]at ha;exact ha rfl)) rfl rfl rfl rfl rfl (by rw[hp];trivial) trivial trivial
 | s5 j=>unfold Am.step;rw[hp];exact DT.mK h hi (by intro a ha;exact lf (by intro e;rw[e]at ha;exact ha rfl)) rfl rfl rfl rfl rfl (by rw[hp];trivial) trivial trivial
 | flag=>unfold Am.step;rw[hp];exact DT.mK h hi (by intro a ha;exact lf (by intro e;rw[e]at ha;exact ha rfl)) rfl rfl rfl rfl rfl (by rw[hp];trivial) trivial trivial
 | sleep=>unfold Am.step;rw[hp];exact DT.mK h hi (by intro a ha;exact lf (by intro e;rw[e]at ha;exact ha rfl)) rfl rfl rfl rfl rfl (by rw[hp];trivial) trivial trivial
 | AU j=>unfold Am.step;rw[hp];exact DT.mK h hi (λ_ _=>rfl) rfl rfl rfl rfl rfl (by rw[hp];trivial) trivial trivial
end
end Am
end
section
namespace Am
inductive Tx | none | full | start | run | fork (c:Nat) | push (c:Nat) | one | out (p c:Nat) | take (p c:Nat)
deriving DecidableEq
def sig:Pc→Tx
 | .start _=>.start
 | .run | .DA | .qG _ | .s5 _=>.run
 | .fork c=>.fork c
 | .zA c | .vR c _ | .pJ c _ _ | .pK c _ _ | .grow c _ _ _ | .nh c _ _ _ | .kG c _ _ _ _
 | .kO c _ _ _ _ _ | .ni c _ _ _ | .kH c _ _ | .oC c _=>.push c
 | .pI=>.one
 | .out p c=>.out p c
 | .take p c=>.take p c
 | .full=>.full
 | _=>.none
structure V where
 g:Nat→Tx
 hold:Nat→Option Nat
 loc:Nat→Loc
 par:Nat→Nat
 nf:Nat
 ck:Nat→List Nat
 q:Nat→List Nat
 pop:Nat→Option Nat
 join:Nat→Int
 mark:Nat→Int
 next:Int
def J(l:Loc)(n:Int)(k:List Nat):Prop:=
 match l with
 | .waiting=>n=k.length∧k≠[]
 | .qH _ | .w7 _=>n=0∧k=[]
 | _=>n=1+k.length
def early:Loc→Bool
 | .free | .bM _ | .QN _ | .pop _=>true
 | _=>false
def busy:Tx→Bool
 | .start | .run | .fork _ | .push _ | .one=>true
 | _=>false
def rest:Tx→Bool
 | .none | .out _ _ | .take _ _=>true
 | _=>false
def Iw(N:Nat)(g:Nat→Tx)(c:Nat):Loc→Prop
 | .bM j=>j<N∧g j= .fork c
 | _=>False
structure V.FI(N F:Nat)(v:V):Prop where
 vy:1≤v.nf
 tM:v.nf≤F
 nx:v.next=v.nf∨(v.nf=F∧(F:Int)≤v.next)
 free:∀f,v.nf≤f→v.loc f= .free
 used:∀f,f<v.nf→v.loc f≠.free
 new:∀f,v.nf≤f→v.ck f=[]∧v.join f=1
 hold:∀i f,i<N→v.hold i=some f→(v.g i= .one∧v.loc f= .qH i)∨(v.g i≠.one∧v.loc f= .held i)
 hs:∀i,i<N→busy (v.g i)=true→v.hold i≠.none
 hr:∀i,i<N→rest (v.g i)=true→v.hold i= .none
 fk:∀i c,i<N→v.g i= .fork c→c≠0∧v.loc c= .bM i∧v.hold i=some (v.par c)∧∀p,c∉v.ck p
 ps:∀i c,i<N→v.g i= .push c→c≠0∧v.loc c= .bM i∧v.hold i=some (v.par c)∧c∈v.ck (v.par c)
 q:∀j x,j<N→x∈v.q j→x≠0∧v.loc x= .QN j
 qn:∀j,j<N→(v.q j).Nodup
 pop:∀i x,i<N→v.pop i=some x→x≠0∧v.loc x= .pop i
 tk:∀i p c,i<N→v.g i= .take p c→v.loc p= .w7 i
 tp:∀i p c,i<N→v.g i= .take p c→c≠0∧c<v.nf∧p=v.par c
 out:∀i p c,i<N→v.g i= .out p c→c≠0∧v.loc c= .fin i∧p=v.par c
 kn:∀p,(v.ck p).Nodup
 kd:∀p c,c∈v.ck p→c≠0∧v.par c=p∧v.loc c≠.gone∧v.loc c≠.free
 un:∀c,c≠0→c<v.nf→v.loc c≠.gone→c∈v.ck (v.par c)∨Iw N v.g c (v.loc c)
 pr:∀c,c<v.nf→v.par c<v.nf
 jn:∀f,f<v.nf→J (v.loc f) (v.join f) (v.ck f)
 u6:∀f,early (v.loc f)=true→v.mark f=0
 vS:∀i f,i<N→v.g i= .start→v.hold i=some f→v.mark f=0
attribute [grind =] fD
attribute [grind] early busy rest
theorem Nk{N g c l}:Iw N g c l=match (l:Loc)with | .bM j=>j<N∧g j= .fork c | _=>False:=by cases l<;>rfl
theorem J_d{l n k}:J l n k=match (l:Loc)with | .waiting=>n=k.length∧k≠[] | .qH _ | .w7 _=>n=0∧k=[] | _=>n=1+(k.length:Int):=by cases l<;>rfl
attribute [grind =] Nk J_d
namespace V
variable {N F:Nat}{v:V}{i:Nat}
theorem FI.fU(h:v.FI N F)(hi:i<N){p:Tx}(hb:busy p=true)(hg:busy (v.g i)=true)(hp:p= .run∨p= .full)(h1:v.g i≠.one)(hn:∀c,v.g i≠.fork c) :
 FI N F {v with g:=fE v.g i p} where
 vy:=h.vy
 tM:=h.tM
 nx:=h.nx
 free:=h.free
 used:=h.used
 new:=h.new
 hold:=by have z0:=h.hold;grind
 hs:=by have z0:=h.hs;grind
 hr:=by have z0:=h.hr;grind
 fk:=by have z0:=h.fk;grind
 ps:=by have z0:=h.ps;grind
 q:=h.q
 qn:=h.qn
 pop:=h.pop
 tk:=by have z0:=h.tk;grind
 out:=by have z0:=h.out;grind
 tp:=by have z0:=h.tp;grind
 kn:=h.kn
 kd:=h.kd
 un:=by have z0:=h.un;grind
 pr:=h.pr
 jn:=h.jn
 u6:=h.u6
 vS:=by have z0:=h.vS;grind
theorem FI.full(h:v.FI N F)(hi:i<N)(hg:busy (v.g i)=true)(h1:v.g i≠.one)(hn:∀c,v.g i≠.fork c) :
 FI N F {v with g:=fE v.g i .full} where
 vy:=h.vy
 tM:=h.tM
 nx:=h.nx
 free:=h.free
 used:=h.used
 new:=h.new
 hold:=by have z0:=h.hold;grind
 hs:=by have z0:=h.hs;grind
 hr:=by have z0:=h.hr;grind
 fk:=by have z0:=h.fk;grind
 ps:=by have z0:=h.ps;grind
 q:=h.q
 qn:=h.qn
 pop:=h.pop
 tk:=by have z0:=h.tk;grind
 out:=by have z0:=h.out;grind
 tp:=by have z0:=h.tp;grind
 kn:=h.kn
 kd:=h.kd
 un:=by have z0:=h.un;grind
 pr:=h.pr
 jn:=h.jn
 u6:=h.u6
 vS:=by have z0:=h.vS;grind
theorem FI.start(h:v.FI N F)(hi:i<N)(hg:v.g i= .start){f:Nat}(hf:v.hold i=some f){m:Int} :
 FI N F {v with g:=fE v.g i .run,mark:=fE v.mark f m} where
 vy:=h.vy
 tM:=h.tM
 nx:=h.nx
 free:=h.free
 used:=h.used
 new:=h.new
 hold:=by have z0:=h.hold;grind
 hs:=by have z0:=h.hs;grind
 hr:=by have z0:=h.hr;grind
 fk:=by have z0:=h.fk;grind
 ps:=by have z0:=h.ps;grind
 q:=h.q
 qn:=h.qn
 pop:=h.pop
 tk:=by have z0:=h.tk;grind
 out:=by have z0:=h.out;grind
 tp:=by have z0:=h.tp;grind
 kn:=h.kn
 kd:=h.kd
 un:=by have z0:=h.un;grind
 pr:=h.pr
 jn:=h.jn
 u6:=by have z0:=h.u6;have z1:=h.hold;grind
 vS:=by have z0:=h.vS;have z1:=h.hold;grind
theorem FI.spawn(h:v.FI N F)(hi:i<N)(hg:v.g i= .run){f:Nat}(hf:v.hold i=some f)(hn:v.next<F) :
 FI N F {v with g:=fE v.g i (.fork v.nf),next:=v.next+1,nf:=v.nf+1,par:=fE v.par v.nf f,loc:=fE v.loc v.nf (.bM i)} where
 vy:=by have z0:=h.vy;have z1:=h.free;have z2:=h.used;grind
 tM:=by have z0:=h.tM;have z1:=h.free;have z2:=h.used;have z3:=h.nx;grind
 nx:=by have z0:=h.nx;have z1:=h.free;have z2:=h.used;have z3:=h.tM;grind
 free:=by have z0:=h.free;have z1:=h.used;grind
 used:=by have z0:=h.used;have z1:=h.free;grind
 new:=by have z0:=h.new;have z1:=h.free;have z2:=h.used;grind
 hold:=by have z0:=h.hold;have z1:=h.free;have z2:=h.used;grind
 hs:=by have z0:=h.hs;have z1:=h.free;have z2:=h.used;grind
 hr:=by have z0:=h.hr;have z1:=h.free;have z2:=h.used;grind
 fk:=by have z0:=h.fk;have z1:=h.free;have z2:=h.used;have z3:=h.kd;have z4:=h.new;have z5:=h.hold;grind
 ps:=by have z0:=h.ps;have z1:=h.free;have z2:=h.used;have z3:=h.kd;grind
 q:=by have z0:=h.q;have z1:=h.free;have z2:=h.used;grind
 qn:=h.qn
 pop:=by have z0:=h.pop;have z1:=h.free;have z2:=h.used;grind
 tk:=by have z0:=h.tk;have z1:=h.free;have z2:=h.used;grind
 out:=by have z0:=h.out;have z1:=h.free;have z2:=h.used;have z3:=h.pr;grind
 tp:=by have z0:=h.tp;have z1:=h.free;have z2:=h.used;grind
 kn:=h.kn
 kd:=by have z0:=h.kd;have z1:=h.free;have z2:=h.used;have z3:=h.new;grind
 un:=by have z0:=h.un;have z1:=h.free;have z2:=h.used;grind
 pr:=by have z0:=h.pr;have z1:=h.free;have z2:=h.used;have z3:=h.hold;grind
 jn:=by have z0:=h.jn;have z1:=h.free;have z2:=h.used;have z3:=h.new;grind
 u6:=by have z0:=h.u6;have z1:=h.free;have z2:=h.used;grind
 vS:=by have z0:=h.vS;have z1:=h.free;have z2:=h.used;grind
theorem FI.E7(h:v.FI N F)(hi:i<N)(hg:v.g i= .run)(hn:(F:Int)≤v.next) :
 FI N F {v with g:=fE v.g i .full,next:=v.next+1} where
 vy:=h.vy
 tM:=h.tM
 nx:=by have z0:=h.nx;have z1:=h.tM;grind
 free:=h.free
 used:=h.used
 new:=h.new
 hold:=by have z0:=h.hold;grind
 hs:=by have z0:=h.hs;grind
 hr:=by have z0:=h.hr;grind
 fk:=by have z0:=h.fk;grind
 ps:=by have z0:=h.ps;grind
 q:=h.q
 qn:=h.qn
 pop:=h.pop
 tk:=by have z0:=h.tk;grind
 out:=by have z0:=h.out;grind
 tp:=by have z0:=h.tp;grind
 kn:=h.kn
 kd:=h.kd
 un:=by have z0:=h.un;grind
 pr:=h.pr
 jn:=h.jn
 u6:=h.u6
 vS:=by have z0:=h.vS;grind
theorem FI.fork(h:v.FI N F)(hi:i<N){c f:Nat}(hg:v.g i= .fork c)(hf:v.hold i=some f) :
 FI N F {v with g:=fE v.g i (.push c),join:=fE v.join f (v.join f+1),ck:=fE v.ck f (c::v.ck f)} where
 vy:=h.vy
 tM:=h.tM
 nx:=h.nx
 free:=h.free
 used:=h.used
 new:=by have z0:=h.new;have z1:=h.fk;have z2:=h.hold;have z3:=h.free;grind
 hold:=by have z0:=h.hold;have z1:=h.fk;grind
 hs:=by have z0:=h.hs;have z1:=h.fk;have z2:=h.hold;grind
 hr:=by have z0:=h.hr;have z1:=h.fk;have z2:=h.hold;grind
 fk:=by have z0:=h.fk;have z1:=h.hold;grind
 ps:=by have z0:=h.ps;have z1:=h.fk;have z2:=h.hold;grind
 q:=h.q
 qn:=h.qn
 pop:=h.pop
 tk:=by have z0:=h.tk;have z1:=h.fk;have z2:=h.hold;grind
 out:=by have z0:=h.out;have z1:=h.fk;have z2:=h.hold;grind
 tp:=by have z0:=h.tp;have z1:=h.fk;have z2:=h.hold;grind
 kn:=by have z0:=h.kn;have z1:=h.fk;have z2:=h.hold;grind
 kd:=by have z0:=h.kd;have z1:=h.fk;have z2:=h.hold;grind
 un:=by have z0:=h.un;have z1:=h.fk;have z2:=h.hold;grind
 pr:=h.pr
 jn:=by have z0:=h.jn;have z1:=h.fk;have z2:=h.hold;grind
 u6:=h.u6
 vS:=by have z0:=h.vS;have z1:=h.fk;have z2:=h.hold;grind
theorem FI.push(h:v.FI N F)(hi:i<N){c:Nat}(hg:v.g i= .push c) :
 FI N F {v with g:=fE v.g i .run,q:=fE v.q i (v.q i++[c]),loc:=fE v.loc c (.QN i)} where
 vy:=h.vy
 tM:=h.tM
 nx:=h.nx
 free:=by have z0:=h.free;have z1:=h.ps;grind
 used:=by have z0:=h.used;have z1:=h.ps;grind
 new:=h.new
 hold:=by have z0:=h.hold;have z1:=h.ps;grind
 hs:=by have z0:=h.hs;have z1:=h.ps;grind
 hr:=by have z0:=h.hr;have z1:=h.ps;grind
 fk:=by have z0:=h.fk;have z1:=h.ps;grind
 ps:=by have z0:=h.ps;grind
 q:=by have z0:=h.q;have z1:=h.ps;grind
 qn:=by have z0:=h.qn;have z1:=h.ps;have z2:=h.q;grind
 pop:=by have z0:=h.pop;have z1:=h.ps;grind
 tk:=by have z0:=h.tk;have z1:=h.ps;grind
 out:=by have z0:=h.out;have z1:=h.ps;grind
 tp:=by have z0:=h.tp;have z1:=h.ps;grind
 kn:=h.kn
 kd:=by have z0:=h.kd;have z1:=h.ps;grind
 un:=by have z0:=h.un;have z1:=h.ps;have z2:=h.hold;grind
 pr:=h.pr
 jn:=by have z0:=h.jn;have z1:=h.ps;grind
 u6:=by have z0:=h.u6;have z1:=h.ps;grind
 vS:=by have z0:=h.vS;have z1:=h.ps;have z2:=h.hold;grind
theorem FI.wait(h:v.FI N F)(hi:i<N){f:Nat}(hg:v.g i= .run)(hf:v.hold i=some f)(hk:0<v.join f-1) :
 FI N F {v with g:=fE v.g i .none,hold:=fE v.hold i none,join:=fE v.join f (v.join f-1),loc:=fE v.loc f .waiting} where
 vy:=h.vy
 tM:=h.tM
 nx:=h.nx
 free:=by have z0:=h.free;have z1:=h.hold;grind
 used:=by have z0:=h.used;have z1:=h.hold;grind
 new:=by have z0:=h.new;have z1:=h.hold;have z2:=h.free;grind
 hold:=by have z0:=h.hold;grind
 hs:=by have z0:=h.hs;have z1:=h.hold;grind
 hr:=by have z0:=h.hr;have z1:=h.hold;grind
 fk:=by have z0:=h.fk;have z1:=h.hold;grind
 ps:=by have z0:=h.ps;have z1:=h.hold;grind
 q:=by have z0:=h.q;have z1:=h.hold;grind
 qn:=h.qn
 pop:=by have z0:=h.pop;have z1:=h.hold;grind
 tk:=by have z0:=h.tk;have z1:=h.hold;grind
 out:=by have z0:=h.out;have z1:=h.hold;grind
 tp:=by have z0:=h.tp;have z1:=h.hold;grind
 kn:=h.kn
 kd:=by have z0:=h.kd;have z1:=h.hold;grind
 un:=by have z0:=h.un;have z1:=h.hold;grind
 pr:=h.pr
 jn:=by have z0:=h.jn;have z1:=h.hold;grind
 u6:=by have z0:=h.u6;have z1:=h.hold;grind
 vS:=by have z0:=h.vS;have z1:=h.hold;grind
theorem FI.pass(h:v.FI N F)(hi:i<N){f:Nat}(hg:v.g i= .run)(hf:v.hold i=some f)(hk:¬0<v.join f-1) :
 FI N F {v with g:=fE v.g i .one,join:=fE v.join f (v.join f-1),loc:=fE v.loc f (.qH i)} where
 vy:=h.vy
 tM:=h.tM
 nx:=h.nx
 free:=by have z0:=h.free;have z1:=h.hold;grind
 used:=by have z0:=h.used;have z1:=h.hold;grind
 new:=by have z0:=h.new;have z1:=h.hold;have z2:=h.free;grind
 hold:=by have z0:=h.hold;grind
 hs:=by have z0:=h.hs;have z1:=h.hold;grind
 hr:=by have z0:=h.hr;have z1:=h.hold;grind
 fk:=by have z0:=h.fk;have z1:=h.hold;grind
 ps:=by have z0:=h.ps;have z1:=h.hold;grind
 q:=by have z0:=h.q;have z1:=h.hold;grind
 qn:=h.qn
 pop:=by have z0:=h.pop;have z1:=h.hold;grind
 tk:=by have z0:=h.tk;have z1:=h.hold;grind
 out:=by have z0:=h.out;have z1:=h.hold;grind
 tp:=by have z0:=h.tp;have z1:=h.hold;grind
 kn:=h.kn
 kd:=by have z0:=h.kd;have z1:=h.hold;grind
 un:=by have z0:=h.un;have z1:=h.hold;grind
 pr:=h.pr
 jn:=by have z0:=h.jn;have z1:=h.hold;grind [List.length_eq_zero_iff]
 u6:=by have z0:=h.u6;have z1:=h.hold;grind
 vS:=by have z0:=h.vS;have z1:=h.hold;grind
theorem FI.one(h:v.FI N F)(hi:i<N){f:Nat}(hg:v.g i= .one)(hf:v.hold i=some f) :
 FI N F {v with g:=fE v.g i .run,join:=fE v.join f 1,loc:=fE v.loc f (.held i)} where
 vy:=h.vy
 tM:=h.tM
 nx:=h.nx
 free:=by have z0:=h.free;have z1:=h.hold;grind
 used:=by have z0:=h.used;have z1:=h.hold;grind
 new:=by have z0:=h.new;have z1:=h.hold;have z2:=h.free;grind
 hold:=by have z0:=h.hold;grind
 hs:=by have z0:=h.hs;have z1:=h.hold;grind
 hr:=by have z0:=h.hr;have z1:=h.hold;grind
 fk:=by have z0:=h.fk;have z1:=h.hold;grind
 ps:=by have z0:=h.ps;have z1:=h.hold;grind
 q:=by have z0:=h.q;have z1:=h.hold;grind
 qn:=h.qn
 pop:=by have z0:=h.pop;have z1:=h.hold;grind
 tk:=by have z0:=h.tk;have z1:=h.hold;grind
 out:=by have z0:=h.out;have z1:=h.hold;grind
 tp:=by have z0:=h.tp;have z1:=h.hold;grind
 kn:=h.kn
 kd:=by have z0:=h.kd;have z1:=h.hold;grind
 un:=by have z0:=h.un;have z1:=h.hold;grind
 pr:=h.pr
 jn:=by have z0:=h.jn;have z1:=h.hold;grind
 u6:=by have z0:=h.u6;have z1:=h.hold;grind
 vS:=by have z0:=h.vS;have z1:=h.hold;grind
theorem FI.Pr(h:v.FI N F)(hi:i<N)(hg:v.g i= .run)(hf:v.hold i=some 0) :
 FI N F {v with g:=fE v.g i .none,hold:=fE v.hold i none,loc:=fE v.loc 0 (.fin i)} where
 vy:=h.vy
 tM:=h.tM
 nx:=h.nx
 free:=by have z0:=h.free;have z1:=h.hold;grind
 used:=by have z0:=h.used;have z1:=h.hold;grind
 new:=h.new
 hold:=by have z0:=h.hold;grind
 hs:=by have z0:=h.hs;have z1:=h.hold;grind
 hr:=by have z0:=h.hr;have z1:=h.hold;grind
 fk:=by have z0:=h.fk;have z1:=h.hold;grind
 ps:=by have z0:=h.ps;have z1:=h.hold;grind
 q:=by have z0:=h.q;have z1:=h.hold;grind
 qn:=h.qn
 pop:=by have z0:=h.pop;have z1:=h.hold;grind
 tk:=by have z0:=h.tk;have z1:=h.hold;grind
 out:=by have z0:=h.out;have z1:=h.hold;grind
 tp:=by have z0:=h.tp;have z1:=h.hold;grind
 kn:=h.kn
 kd:=by have z0:=h.kd;have z1:=h.hold;grind
 un:=by have z0:=h.un;have z1:=h.hold;grind
 pr:=h.pr
 jn:=by have z0:=h.jn;have z1:=h.hold;grind
 u6:=by have z0:=h.u6;have z1:=h.hold;grind
 vS:=by have z0:=h.vS;have z1:=h.hold;grind
theorem FI.ret(h:v.FI N F)(hi:i<N)(hg:v.g i= .run){f:Nat}(hf:v.hold i=some f)(h0:f≠0) :
 FI N F {v with g:=fE v.g i (.out (v.par f) f),hold:=fE v.hold i none,loc:=fE v.loc f (.fin i)} where
 vy:=h.vy
 tM:=h.tM
 nx:=h.nx
 free:=by have z0:=h.free;have z1:=h.hold;grind
 used:=by have z0:=h.used;have z1:=h.hold;grind
 new:=h.new
 hold:=by have z0:=h.hold;grind
 hs:=by have z0:=h.hs;have z1:=h.hold;grind
 hr:=by have z0:=h.hr;have z1:=h.hold;grind
 fk:=by have z0:=h.fk;have z1:=h.hold;grind
 ps:=by have z0:=h.ps;have z1:=h.hold;grind
 q:=by have z0:=h.q;have z1:=h.hold;grind
 qn:=h.qn
 pop:=by have z0:=h.pop;have z1:=h.hold;grind
 tk:=by have z0:=h.tk;have z1:=h.hold;grind
 out:=by have z0:=h.out;have z1:=h.hold;grind
 tp:=by have z0:=h.tp;have z1:=h.hold;grind
 kn:=h.kn
 kd:=by have z0:=h.kd;have z1:=h.hold;grind
 un:=by have z0:=h.un;have z1:=h.hold;grind
 pr:=h.pr
 jn:=by have z0:=h.jn;have z1:=h.hold;grind
 u6:=by have z0:=h.u6;have z1:=h.hold;grind
 vS:=by have z0:=h.vS;have z1:=h.hold;grind
theorem FI.fR(h:v.FI N F)(hi:i<N){p c:Nat}(hg:v.g i= .out p c):c∈v.ck p∧c<v.nf∧p<v.nf∧p=v.par c∧v.loc c= .fin i∧c≠0:=by
 have z0:=h.out i p c hi hg;have z1:=h.free c;have z2:=h.un c;have z3:=h.pr c;grind
theorem FI.jy(h:v.FI N F)(hi:i<N){p c:Nat}(hg:v.g i= .out p c)(hn:v.join p-1=0):v.loc p= .waiting∧v.ck p=[c]∧p≠c:=by
 obtain⟨a1,a2,a3,a4,a5,a6⟩:=h.fR hi hg
 have z:=h.jn p a3
 rw[J_d]at z
 have hl:0<(v.ck p).length:=List.length_pos_of_mem a1
 split at z
 ·rename_i hw
  refine⟨hw,?_,?_⟩
  ·have:(v.ck p).length=1:=by omega
   obtain⟨y,hy⟩:=List.length_eq_one_iff.1 this
   rw[hy]at a1⊢;rw[List.mem_singleton.1 a1]
  ·rintro rfl;rw[hw]at a5;cases a5
 ·rw[z.2]at a1;cases a1
 ·rw[z.2]at a1;cases a1
 ·omega
theorem FI.Ps(h:v.FI N F)(hi:i<N){p c:Nat}(hg:v.g i= .out p c)(hn:v.join p-1≠0) :
 FI N F {v with g:=fE v.g i .none,join:=fE v.join p (v.join p-1),ck:=fE v.ck p ((v.ck p).erase c),loc:=fE v.loc c .gone} where
 vy:=h.vy
 tM:=h.tM
 nx:=h.nx
 free:=by have y1:=h.fR hi hg;have z0:=h.free;have z1:=h.out;grind [List.length_erase_of_mem,List.Nodup.mem_erase_iff,List.Nodup.erase,List.length_eq_zero_iff]
 used:=by have y1:=h.fR hi hg;have z0:=h.used;have z1:=h.out;grind [List.length_erase_of_mem,List.Nodup.mem_erase_iff,List.Nodup.erase,List.length_eq_zero_iff]
 new:=by have y1:=h.fR hi hg;have z0:=h.new;have z1:=h.out;have z2:=h.free;grind [List.length_erase_of_mem,List.Nodup.mem_erase_iff,List.Nodup.erase,List.length_eq_zero_iff]
 hold:=by have y1:=h.fR hi hg;have z0:=h.hold;have z1:=h.out;grind [List.length_erase_of_mem,List.Nodup.mem_erase_iff,List.Nodup.erase,List.length_eq_zero_iff]
 hs:=by have y1:=h.fR hi hg;have z0:=h.hs;have z1:=h.out;grind [List.length_erase_of_mem,List.Nodup.mem_erase_iff,List.Nodup.erase,List.length_eq_zero_iff]
 hr:=by have y1:=h.fR hi hg;have z0:=h.hr;have z1:=h.out;grind [List.length_erase_of_mem,List.Nodup.mem_erase_iff,List.Nodup.erase,List.length_eq_zero_iff]
 fk:=by have y1:=h.fR hi hg;have z0:=h.fk;have z1:=h.out;grind [List.length_erase_of_mem,List.Nodup.mem_erase_iff,List.Nodup.erase,List.length_eq_zero_iff]
 ps:=by have y1:=h.fR hi hg;have z0:=h.ps;have z1:=h.out;grind [List.length_erase_of_mem,List.Nodup.mem_erase_iff,List.Nodup.erase,List.length_eq_zero_iff]
 q:=by have y1:=h.fR hi hg;have z0:=h.q;have z1:=h.out;grind [List.length_erase_of_mem,List.Nodup.mem_erase_iff,List.Nodup.erase,List.length_eq_zero_iff]
 qn:=h.qn
 pop:=by have y1:=h.fR hi hg;have z0:=h.pop;have z1:=h.out;grind [List.length_erase_of_mem,List.Nodup.mem_erase_iff,List.Nodup.erase,List.length_eq_zero_iff]
 tk:=by have y1:=h.fR hi hg;have z0:=h.tk;have z1:=h.out;grind [List.length_erase_of_mem,List.Nodup.mem_erase_iff,List.Nodup.erase,List.length_eq_zero_iff]
 out:=by have y1:=h.fR hi hg;have z0:=h.out;grind [List.length_erase_of_mem,List.Nodup.mem_erase_iff,List.Nodup.erase,List.length_eq_zero_iff]
 tp:=by have y1:=h.fR hi hg;have z0:=h.tp;have z1:=h.out;grind [List.length_erase_of_mem,List.Nodup.mem_erase_iff,List.Nodup.erase,List.length_eq_zero_iff]
 kn:=by have y1:=h.fR hi hg;have z0:=h.kn;have z1:=h.out;grind [List.length_erase_of_mem,List.Nodup.mem_erase_iff,List.Nodup.erase,List.length_eq_zero_iff]
 kd:=by have y1:=h.fR hi hg;have z0:=h.kd;have z1:=h.out;have z2:=h.kn;grind [List.length_erase_of_mem,List.Nodup.mem_erase_iff,List.Nodup.erase,List.length_eq_zero_iff]
 un:=λx h0 hxn hl=>by
  have hne:x≠c:=by rintro rfl;exact hl (bQ _ _ _)
  have hl':fE v.loc c .gone x=v.loc x:=bA hne
  show x∈fE v.ck p ((v.ck p).erase c) (v.par x)∨Iw N (fE v.g i .none) x (fE v.loc c .gone x)
  change fE v.loc c .gone x≠.gone at hl
  rw[hl']at hl⊢
  rcases h.un x h0 hxn hl with a | a
  ·left;rw[fD];split
   ·next e=>exact(List.mem_erase_of_ne hne).2 (e▸ a)
   ·exact a
  ·right;clear hl';revert a;cases v.loc x<;>grind
 pr:=h.pr
 jn:=by have y1:=h.fR hi hg;have z0:=h.jn;have z1:=h.out;have z2:=h.kn;grind [List.length_erase_of_mem,List.Nodup.mem_erase_iff,List.Nodup.erase,List.length_eq_zero_iff]
 u6:=by have y1:=h.fR hi hg;have z0:=h.u6;have z1:=h.out;grind [List.length_erase_of_mem,List.Nodup.mem_erase_iff,List.Nodup.erase,List.length_eq_zero_iff]
 vS:=by have y1:=h.fR hi hg;have z0:=h.vS;have z1:=h.out;grind [List.length_erase_of_mem,List.Nodup.mem_erase_iff,List.Nodup.erase,List.length_eq_zero_iff]
theorem FI.Pu(h:v.FI N F)(hi:i<N){p c:Nat}(hg:v.g i= .out p c)(hn:v.join p-1=0) :
 FI N F {v with g:=fE v.g i (.take p c),join:=fE v.join p (v.join p-1),ck:=fE v.ck p ((v.ck p).erase c),loc:=fE (fE v.loc c .gone) p (.w7 i)} where
 vy:=h.vy
 tM:=h.tM
 nx:=h.nx
 free:=by have y1:=h.fR hi hg;have y2:=h.jy hi hg hn;have z0:=h.free;grind [List.erase_cons_head]
 used:=by have y1:=h.fR hi hg;have y2:=h.jy hi hg hn;have z0:=h.used;grind [List.erase_cons_head]
 new:=by have y1:=h.fR hi hg;have y2:=h.jy hi hg hn;have z0:=h.new;have z1:=h.free;grind [List.erase_cons_head]
 hold:=by have y1:=h.fR hi hg;have y2:=h.jy hi hg hn;have z0:=h.hold;grind [List.erase_cons_head]
 hs:=by have y1:=h.fR hi hg;have y2:=h.jy hi hg hn;have z0:=h.hs;grind [List.erase_cons_head]
 hr:=by have y1:=h.fR hi hg;have y2:=h.jy hi hg hn;have z0:=h.hr;grind [List.erase_cons_head]
 fk:=by have y1:=h.fR hi hg;have y2:=h.jy hi hg hn;have z0:=h.fk;grind [List.erase_cons_head]
 ps:=by have y1:=h.fR hi hg;have y2:=h.jy hi hg hn;have z0:=h.ps;grind [List.erase_cons_head]
 q:=by have y1:=h.fR hi hg;have y2:=h.jy hi hg hn;have z0:=h.q;grind [List.erase_cons_head]
 qn:=h.qn
 pop:=by have y1:=h.fR hi hg;have y2:=h.jy hi hg hn;have z0:=h.pop;grind [List.erase_cons_head]
 tk:=by have y1:=h.fR hi hg;have y2:=h.jy hi hg hn;have z0:=h.tk;grind [List.erase_cons_head]
 out:=by have y1:=h.fR hi hg;have y2:=h.jy hi hg hn;have z0:=h.out;grind [List.erase_cons_head]
 tp:=by have y1:=h.fR hi hg;have y2:=h.jy hi hg hn;have z0:=h.tp;grind [List.erase_cons_head]
 kn:=by have y1:=h.fR hi hg;have y2:=h.jy hi hg hn;have z0:=h.kn;grind [List.erase_cons_head]
 kd:=by have y1:=h.fR hi hg;have y2:=h.jy hi hg hn;have z0:=h.kd;grind [List.erase_cons_head]
 un:=by have y1:=h.fR hi hg;have y2:=h.jy hi hg hn;have z0:=h.un;have z1:=h.kd;grind [List.erase_cons_head]
 pr:=h.pr
 jn:=by have y1:=h.fR hi hg;have y2:=h.jy hi hg hn;have z0:=h.jn;grind [List.erase_cons_head]
 u6:=by have y1:=h.fR hi hg;have y2:=h.jy hi hg hn;have z0:=h.u6;grind [List.erase_cons_head]
 vS:=by have y1:=h.fR hi hg;have y2:=h.jy hi hg hn;have z0:=h.vS;grind [List.erase_cons_head]
theorem FI.take(h:v.FI N F)(hi:i<N){p c:Nat}(hg:v.g i= .take p c) :
 FI N F {v with g:=fE v.g i .run,hold:=fE v.hold i (some p),join:=fE v.join p 1,loc:=fE v.loc p (.held i)} where
 vy:=h.vy
 tM:=h.tM
 nx:=h.nx
 free:=by have z0:=h.free;have z1:=h.tk;have z2:=h.hold;grind
 used:=by have z0:=h.used;have z1:=h.tk;have z2:=h.hold;grind
 new:=by have z0:=h.new;have z1:=h.tk;have z2:=h.hold;have z3:=h.free;grind
 hold:=by have z0:=h.hold;have z1:=h.tk;grind
 hs:=by have z0:=h.hs;have z1:=h.tk;have z2:=h.hold;grind
 hr:=by have z0:=h.hr;have z1:=h.tk;have z2:=h.hold;grind
 fk:=by have z0:=h.fk;have z1:=h.tk;have z2:=h.hold;grind
 ps:=by have z0:=h.ps;have z1:=h.tk;have z2:=h.hold;grind
 q:=by have z0:=h.q;have z1:=h.tk;have z2:=h.hold;grind
 qn:=h.qn
 pop:=by have z0:=h.pop;have z1:=h.tk;have z2:=h.hold;grind
 tk:=by have z0:=h.tk;have z1:=h.hold;grind
 out:=by have z0:=h.out;have z1:=h.tk;have z2:=h.hold;grind
 tp:=by have z0:=h.tp;have z1:=h.tk;have z2:=h.hold;grind
 kn:=h.kn
 kd:=by have z0:=h.kd;have z1:=h.tk;have z2:=h.hold;grind
 un:=by have z0:=h.un;have z1:=h.tk;have z2:=h.hold;grind
 pr:=h.pr
 jn:=by have z0:=h.jn;have z1:=h.tk;have z2:=h.hold;grind
 u6:=by have z0:=h.u6;have z1:=h.tk;have z2:=h.hold;grind
 vS:=by have z0:=h.vS;have z1:=h.tk;have z2:=h.hold;grind
theorem FI.lJ(h:v.FI N F)(hi:i<N){x:Nat}{l:List Nat}(hg:v.g i= .none)(hq:v.q i=l++[x]) :
 FI N F {v with q:=fE v.q i l,loc:=fE v.loc x (.pop i),pop:=fE v.pop i (some x)} where
 vy:=h.vy
 tM:=h.tM
 nx:=h.nx
 free:=by have z0:=h.free;have z1:=h.q;grind [List.nodup_append]
 used:=by have z0:=h.used;have z1:=h.q;grind [List.nodup_append]
 new:=h.new
 hold:=by have z0:=h.hold;have z1:=h.q;grind [List.nodup_append]
 hs:=h.hs
 hr:=h.hr
 fk:=by have z0:=h.fk;have z1:=h.q;grind [List.nodup_append]
 ps:=by have z0:=h.ps;have z1:=h.q;grind [List.nodup_append]
 q:=by have z0:=h.q;have z1:=h.qn;grind [List.nodup_append]
 qn:=by have z0:=h.qn;have z1:=h.q;grind [List.nodup_append]
 pop:=by have z0:=h.pop;have z1:=h.q;grind [List.nodup_append]
 tk:=by have z0:=h.tk;have z1:=h.q;grind [List.nodup_append]
 out:=by have z0:=h.out;have z1:=h.q;grind [List.nodup_append]
 tp:=h.tp
 kn:=h.kn
 kd:=by have z0:=h.kd;have z1:=h.q;grind [List.nodup_append]
 un:=by have z0:=h.un;have z1:=h.q;grind [List.nodup_append]
 pr:=h.pr
 jn:=by have z0:=h.jn;have z1:=h.q;grind [List.nodup_append]
 u6:=by have z0:=h.u6;have z1:=h.q;grind [List.nodup_append]
 vS:=h.vS
theorem FI.Pv(h:v.FI N F)(hi:i<N){x:Nat}(hg:v.g i= .none)(hq:v.q i=[x]) :
 FI N F {v with q:=fE v.q i [],loc:=fE v.loc x (.pop i),pop:=fE v.pop i (some x)} where
 vy:=h.vy
 tM:=h.tM
 nx:=h.nx
 free:=by have z0:=h.free;have z1:=h.q;grind
 used:=by have z0:=h.used;have z1:=h.q;grind
 new:=h.new
 hold:=by have z0:=h.hold;have z1:=h.q;grind
 hs:=h.hs
 hr:=h.hr
 fk:=by have z0:=h.fk;have z1:=h.q;grind
 ps:=by have z0:=h.ps;have z1:=h.q;grind
 q:=by have z0:=h.q;have z1:=h.qn;grind
 qn:=by have z0:=h.qn;have z1:=h.q;grind
 pop:=by have z0:=h.pop;have z1:=h.q;grind
 tk:=by have z0:=h.tk;have z1:=h.q;grind
 out:=by have z0:=h.out;have z1:=h.q;grind
 tp:=h.tp
 kn:=h.kn
 kd:=by have z0:=h.kd;have z1:=h.q;grind
 un:=by have z0:=h.un;have z1:=h.q;grind
 pr:=h.pr
 jn:=by have z0:=h.jn;have z1:=h.q;grind
 u6:=by have z0:=h.u6;have z1:=h.q;grind
 vS:=h.vS
theorem FI.got(h:v.FI N F)(hi:i<N){x:Nat}(hg:v.g i= .none)(hx:v.pop i=some x) :
 FI N F {v with g:=fE v.g i .start,hold:=fE v.hold i (some x),loc:=fE v.loc x (.held i),pop:=fE v.pop i none} where
 vy:=h.vy
 tM:=h.tM
 nx:=h.nx
 free:=by have z0:=h.free;have z1:=h.pop;grind
 used:=by have z0:=h.used;have z1:=h.pop;grind
 new:=h.new
 hold:=by have z0:=h.hold;have z1:=h.pop;grind
 hs:=by have z0:=h.hs;have z1:=h.pop;grind
 hr:=by have z0:=h.hr;have z1:=h.pop;grind
 fk:=by have z0:=h.fk;have z1:=h.pop;grind
 ps:=by have z0:=h.ps;have z1:=h.pop;grind
 q:=by have z0:=h.q;have z1:=h.pop;grind
 qn:=h.qn
 pop:=by have z0:=h.pop;grind
 tk:=by have z0:=h.tk;have z1:=h.pop;grind
 out:=by have z0:=h.out;have z1:=h.pop;grind
 tp:=by have z0:=h.tp;have z1:=h.pop;grind
 kn:=h.kn
 kd:=by have z0:=h.kd;have z1:=h.pop;grind
 un:=by have z0:=h.un;have z1:=h.pop;grind
 pr:=h.pr
 jn:=by have z0:=h.jn;have z1:=h.pop;grind
 u6:=by have z0:=h.u6;have z1:=h.pop;grind
 vS:=by have z0:=h.vS;have z1:=h.pop;have z2:=h.u6;have z3:=h.hold;grind
theorem FI.JQ(h:v.FI N F)(hi:i<N){x w:Nat}{l:List Nat}(hw:w<N)(hg:v.g i= .none)(hx:v.q w=x::l) :
 FI N F {v with g:=fE v.g i .start,hold:=fE v.hold i (some x),loc:=fE v.loc x (.held i),q:=fE v.q w l} where
 vy:=h.vy
 tM:=h.tM
 nx:=h.nx
 free:=by have z0:=h.free;have z1:=h.q;grind [List.nodup_cons]
 used:=by have z0:=h.used;have z1:=h.q;grind [List.nodup_cons]
 new:=h.new
 hold:=by have z0:=h.hold;have z1:=h.q;grind [List.nodup_cons]
 hs:=by have z0:=h.hs;have z1:=h.q;grind [List.nodup_cons]
 hr:=by have z0:=h.hr;have z1:=h.q;grind [List.nodup_cons]
 fk:=by have z0:=h.fk;have z1:=h.q;grind [List.nodup_cons]
 ps:=by have z0:=h.ps;have z1:=h.q;grind [List.nodup_cons]
 q:=by have z0:=h.q;have z1:=h.qn;grind [List.nodup_cons]
 qn:=by have z0:=h.qn;have z1:=h.q;grind [List.nodup_cons]
 pop:=by have z0:=h.pop;have z1:=h.q;grind [List.nodup_cons]
 tk:=by have z0:=h.tk;have z1:=h.q;grind [List.nodup_cons]
 out:=by have z0:=h.out;have z1:=h.q;grind [List.nodup_cons]
 tp:=by have z0:=h.tp;have z1:=h.q;grind [List.nodup_cons]
 kn:=h.kn
 kd:=by have z0:=h.kd;have z1:=h.q;grind [List.nodup_cons]
 un:=by have z0:=h.un;have z1:=h.q;grind [List.nodup_cons]
 pr:=h.pr
 jn:=by have z0:=h.jn;have z1:=h.q;grind [List.nodup_cons]
 u6:=by have z0:=h.u6;have z1:=h.q;grind [List.nodup_cons]
 vS:=by have z0:=h.vS;have z1:=h.q;have z2:=h.u6;have z3:=h.hold;grind [List.nodup_cons]
end V
def view(s:St):V:=⟨λi=>sig (s.pc i),s.hold,s.loc,λf=>(s.fr f).par,s.nf,s.ck,s.q,s.pop,λf=>s.mem (.join f),λf=>s.mem (.mark f),s.mem .next⟩
theorem nS{α β:Type}[DecidableEq α](f:α→β)(a:α):fE f a (f a)=f:=by
 funext x;simp only[fD];split
 ·next e=>rw[e]
 ·rfl
def qR.Ty:qR→Bool
 | .join _ | .mark _ | .next=>true
 | _=>false
structure W where
 v:V
 nr:Nat→Int
 kc:Nat→Nat
 fx:Nat→Int
def sC:Pc→Int
 | .start x=>x
 | _=>0
def wv(s:St):W:=⟨view s,λf=>(s.fr f).nr,λf=>(s.fr f).ck,λi=>sC (s.pc i)⟩
def quiet:Option Ev→Bool
 | none=>true
 | some x=>x.kind==3||x.kind==9||x.kind==10
inductive Tr(C:k8)(i:Nat)(w:W):Option Ev→W→Prop
 | fU (e:Option Ev) (he:quiet e=true):Tr C i w e w
 | full (c:Nat) (hg:w.v.g i= .push c):Tr C i w (ev 11 c 1 0) {w with v:={w.v with g:=fE w.v.g i .full}}
 | start (f:Nat) (hg:w.v.g i= .start) (hf:w.v.hold i=some f):Tr C i w (ev 1 f (w.fx i) (w.v.mark f+1))
  { w with v:={w.v with g:=fE w.v.g i .run,mark:=fE w.v.mark f (w.v.mark f+1)},fx:=fE w.fx i 0}
 | spawn (f:Nat) (hg:w.v.g i= .run) (hf:w.v.hold i=some f) (hn:w.v.next<C.F):Tr C i w none
  { w with v:={w.v with g:=fE w.v.g i (.fork w.v.nf),next:=w.v.next+1,nf:=w.v.nf+1,par:=fE w.v.par w.v.nf f,loc:=fE w.v.loc w.v.nf (.bM i)},nr:=fE w.nr w.v.nf (C.pd (w.nr f) (w.kc f)),kc:=fE (fE w.kc f (w.kc f+1)) w.v.nf 0}
 | E7 (hg:w.v.g i= .run) (hn:(C.F:Int)≤w.v.next):Tr C i w (ev 11 (-1) 0 0) {w with v:={w.v with g:=fE w.v.g i .full,next:=w.v.next+1}}
 | fork (c f:Nat) (hg:w.v.g i= .fork c) (hf:w.v.hold i=some f):Tr C i w none
  { w with v:={w.v with g:=fE w.v.g i (.push c),join:=fE w.v.join f (w.v.join f+1),ck:=fE w.v.ck f (c::w.v.ck f)}}
 | push (c f:Nat) (hg:w.v.g i= .push c) (hf:w.v.hold i=some f):Tr C i w (ev 2 c f (w.nr c)) {w with v:={w.v with g:=fE w.v.g i .run,q:=fE w.v.q i (w.v.q i++[c]),loc:=fE w.v.loc c (.QN i)}}
 | wait (f:Nat) (hg:w.v.g i= .run) (hf:w.v.hold i=some f) (hk:0<w.v.join f-1):Tr C i w (ev 4 f 0 0)
  { w with v:={w.v with g:=fE w.v.g i .none,hold:=fE w.v.hold i none,join:=fE w.v.join f (w.v.join f-1),loc:=fE w.v.loc f .waiting}}
 | pass (f:Nat) (hg:w.v.g i= .run) (hf:w.v.hold i=some f) (hk:¬0<w.v.join f-1):Tr C i w none
  { w with v:={w.v with g:=fE w.v.g i .one,join:=fE w.v.join f (w.v.join f-1),loc:=fE w.v.loc f (.qH i)}}
 | one (f:Nat) (hg:w.v.g i= .one) (hf:w.v.hold i=some f):Tr C i w (ev 5 f 0 0)
  { w with v:={w.v with g:=fE w.v.g i .run,join:=fE w.v.join f 1,loc:=fE w.v.loc f (.held i)}}
 | Pr (v:Int) (hg:w.v.g i= .run) (hf:w.v.hold i=some 0):Tr C i w (ev 6 0 (-1) v)
  { w with v:={w.v with g:=fE w.v.g i .none,hold:=fE w.v.hold i none,loc:=fE w.v.loc 0 (.fin i)}}
 | ret (f:Nat) (v:Int) (hg:w.v.g i= .run) (hf:w.v.hold i=some f) (h0:f≠0):Tr C i w (ev 6 f (w.v.par f) v)
  { w with v:={w.v with g:=fE w.v.g i (.out (w.v.par f) f),hold:=fE w.v.hold i none,loc:=fE w.v.loc f (.fin i)}}
 | Ps (p c:Nat) (hg:w.v.g i= .out p c) (hn:w.v.join p-1≠0):Tr C i w none
  { w with v:={w.v with g:=fE w.v.g i .none,join:=fE w.v.join p (w.v.join p-1),ck:=fE w.v.ck p ((w.v.ck p).erase c),loc:=fE w.v.loc c .gone}}
 | Pu (p c:Nat) (hg:w.v.g i= .out p c) (hn:w.v.join p-1=0):Tr C i w none
  { w with v:={w.v with g:=fE w.v.g i (.take p c),join:=fE w.v.join p (w.v.join p-1),ck:=fE w.v.ck p ((w.v.ck p).erase c),loc:=fE (fE w.v.loc c .gone) p (.w7 i)}}
 | take (p c:Nat) (hg:w.v.g i= .take p c):Tr C i w (ev 7 p c 0)
  { w with v:={w.v with g:=fE w.v.g i .run,hold:=fE w.v.hold i (some p),join:=fE w.v.join p 1,loc:=fE w.v.loc p (.held i)}}
 | lJ (x:Nat) (l:List Nat) (hg:w.v.g i= .none) (hq:w.v.q i=l++[x]):Tr C i w none {w with v:={w.v with q:=fE w.v.q i l,loc:=fE w.v.loc x (.pop i),pop:=fE w.v.pop i (some x)}}
 | Pv (x:Nat) (hg:w.v.g i= .none) (hq:w.v.q i=[x]):Tr C i w none {w with v:={w.v with q:=fE w.v.q i [],loc:=fE w.v.loc x (.pop i),pop:=fE w.v.pop i (some x)}}
 | got (x:Nat) (hg:w.v.g i= .none) (hx:w.v.pop i=some x):Tr C i w none
  { w with v:={w.v with g:=fE w.v.g i .start,hold:=fE w.v.hold i (some x),loc:=fE w.v.loc x (.held i),pop:=fE w.v.pop i none},fx:=fE w.fx i (-1)}
 | JQ (k x:Nat) (l:List Nat) (hk:k<C.N) (FP:k≠i) (hg:w.v.g i= .none) (hx:w.v.q k=x::l):Tr C i w (ev 8 x k 0)
  { w with v:={w.v with g:=fE w.v.g i .start,hold:=fE w.v.hold i (some x),loc:=fE w.v.loc x (.held i),q:=fE w.v.q k l},fx:=fE w.fx i k}
theorem Tr.fi{C:k8}{i:Nat}{w w':W}{e:Option Ev}(t:Tr C i w e w')(hi:i<C.N)(h:w.v.FI C.N C.F):w'.v.FI C.N C.F:=by
 cases t with
 | fU _=>exact h
 | full c hg=>exact h.full hi (by rw[hg];rfl) (by rw[hg];simp) (by rw[hg];simp)
 | start f hg hf=>exact h.start hi hg hf
 | spawn f hg hf hn=>exact h.spawn hi hg hf hn
 | E7 hg hn=>exact h.E7 hi hg hn
 | fork c f hg hf=>exact h.fork hi hg hf
 | push c f hg hf=>exact h.push hi hg
 | wait f hg hf hk=>exact h.wait hi hg hf hk
 | pass f hg hf hk=>exact h.pass hi hg hf hk
 | one f hg hf=>exact h.one hi hg hf
 | Pr v hg hf=>exact h.Pr hi hg hf
 | ret f v hg hf h0=>exact h.ret hi hg hf h0
 | Ps p c hg hn=>exact h.Ps hi hg hn
 | Pu p c hg hn=>exact h.Pu hi hg hn
 | take p c hg=>exact h.take hi hg
 | lJ x l hg hq=>exact h.lJ hi hg hq
 | Pv x hg hq=>exact h.Pv hi hg hq
 | got x hg hx=>exact h.got hi hg hx
 | JQ k x l hk FP hg hx=>exact h.JQ hi hk hg hx
theorem pG{C:k8}{i:Nat}{w w' w'':W}{e:Option Ev}(h:w''=w')(t:Tr C i w e w'):Tr C i w e w'':=h▸ t
def CT(x:Fr):Nat×Int×Nat:=(x.par,x.nr,x.ck)
section
variable {C:k8}{s:St}{i:Nat}{N F:Nat}
theorem QS{s':St}(h0:∀j,sig (s'.pc j)=sig (s.pc j))(hx:∀j,sC (s'.pc j)=sC (s.pc j))(h1:s'.hold=s.hold)(h2:s'.loc=s.loc)(h3:∀f,CT (s'.fr f)=CT (s.fr f))(h4:s'.nf=s.nf)(h5:s'.ck=s.ck)
 (h6:s'.q=s.q) (h7:s'.pop=s.pop) (hm:∀a,a.Ty=true→s'.mem a=s.mem a):wv s'=wv s:=by
 have a1:(λf=>(s'.fr f).par)=λf=>(s.fr f).par:=funext λf=>congrArg (·.1) (h3 f)
 have a2:(λf=>(s'.fr f).nr)=λf=>(s.fr f).nr:=funext λf=>congrArg (·.2.1) (h3 f)
 have a3:(λf=>(s'.fr f).ck)=λf=>(s.fr f).ck:=funext λf=>congrArg (·.2.2) (h3 f)
 unfold wv view
 rw[h1,h2,h4,h5,h6,h7,hm .next rfl,funext h0,funext hx,a1,a2,a3,funext (λf=>hm (.join f) rfl),funext (λf=>hm (.mark f) rfl)]
theorem fU{s':St}{p:Pc}{e:Option Ev}(hp:s'.pc=fE s.pc i p)(hs:sig p=sig (s.pc i)∧sC p=sC (s.pc i))(h1:s'.hold=s.hold)(h2:s'.loc=s.loc)(h3:∀f,CT (s'.fr f)=CT (s.fr f))(h4:s'.nf=s.nf)(h5:s'.ck=s.ck)
 (h6:s'.q=s.q) (h7:s'.pop=s.pop) (hm:∀a,a.Ty=true→s'.mem a=s.mem a) (he:quiet e=true):Tr C i (wv s) e (wv s'):=by
 refine pG (QS (λj => ?_) (λj => ?_) h1 h2 h3 h4 h5 h6 h7 hm) (.fU _ he)
 ·rw[hp,fD];split
  ·next e=>rw[e];exact hs.1
  ·rfl
 ·rw[hp,fD];split
  ·next e=>rw[e];exact hs.2
  ·rfl
theorem CU{s':St}{e:Option Ev}(hp:s'.pc=s.pc)(h1:s'.hold=s.hold)(h2:s'.loc=s.loc)(h3:∀f,CT (s'.fr f)=CT (s.fr f))(h4:s'.nf=s.nf)(h5:s'.ck=s.ck)
 (h6:s'.q=s.q) (h7:s'.pop=s.pop) (hm:∀a,a.Ty=true→s'.mem a=s.mem a) (he:quiet e=true):Tr C i (wv s) e (wv s'):=
 pG (QS (λj=>by rw[hp]) (λj=>by rw[hp]) h1 h2 h3 h4 h5 h6 h7 hm) (.fU _ he)
theorem oJ{a x:qR}{v:Int}(h:a.Ty=false):x.Ty=true→(s.wr a v).mem x=s.mem x:=λhx=>lf (by rintro rfl;rw[h]at hx;cases hx)
theorem vz{f:Nat}{x:Fr}(h:CT x=CT (s.fr f))(j:Nat):CT ((s.lay f x).fr j)=CT (s.fr j):=by
 show CT (fE s.fr f x j)=_
 rw[fD];split
 ·next e=>rw[e,h]
 ·rfl
theorem rK(hf:(view s).FI N F)(hi:i<N)(hb:busy (sig (s.pc i))=true) :∃f,s.hold i=some f:=by
 have:=hf.hs i hi hb
 exact Option.ne_none_iff_exists'.1 this
theorem qJ{w w':W}(h1:∀j,w.v.g j=w'.v.g j)(h2:∀j,w.v.hold j=w'.v.hold j)(h3:∀j,w.v.loc j=w'.v.loc j)(h4:∀j,w.v.par j=w'.v.par j)(h5:w.v.nf=w'.v.nf)(h6:∀j,w.v.ck j=w'.v.ck j)
 (h7:∀j,w.v.q j=w'.v.q j) (h8:∀j,w.v.pop j=w'.v.pop j) (h9:∀j,w.v.join j=w'.v.join j) (h10:∀j,w.v.mark j=w'.v.mark j) (h11:w.v.next=w'.v.next) (h12:∀j,w.nr j=w'.nr j) (h13:∀j,w.kc j=w'.kc j) (h14:∀j,w.fx j=w'.fx j):w=w':=by
 obtain⟨⟨⟩⟩:=w;obtain⟨⟨⟩⟩:=w'
 simp only[W.mk.injEq,V.mk.injEq]
 exact⟨⟨funext h1,funext h2,funext h3,funext h4,h5,funext h6,funext h7,funext h8,funext h9,funext h10,h11⟩,funext h12,funext h13,funext h14⟩
theorem Nl(hf:(view s).FI C.N C.F)(hi:i<C.N)(hp:s.pc i= .run):Tr C i (wv s) (instr C s i).ev (wv (instr C s i).s):=by
 have hg:(view s).g i= .run:=by show sig (s.pc i)=_;rw[hp];rfl
 obtain⟨f,hh⟩:=rK hf hi (by rw[hp];rfl)
 have VA:(view s).hold i=some f:=hh
 unfold Am.instr;simp only[hh,Option.getD_some]
 split
 ·exact CU rfl rfl rfl (vz rfl) rfl rfl rfl rfl (λ_ _=>rfl) rfl
 ·exact CU rfl rfl rfl (vz rfl) rfl rfl rfl rfl (λ_ _=>rfl) rfl
 ·exact CU rfl rfl rfl (vz rfl) rfl rfl rfl rfl (λ_ _=>rfl) rfl
 ·exact CU rfl rfl rfl (vz rfl) rfl rfl rfl rfl (λ_ _=>rfl) rfl
 ·exact CU rfl rfl rfl (vz (by split<;>rfl)) rfl rfl rfl rfl (λ_ _=>rfl) rfl
 ·exact CU rfl rfl rfl (vz rfl) rfl rfl rfl rfl (λ_ _=>rfl) rfl
 ·exact CU rfl rfl rfl (vz rfl) rfl rfl rfl rfl (λ_ _=>rfl) rfl
 ·rename_i sl g c hc
  split
  ·rename_i hn
   refine pG ?_ (Tr.E7 hg (by show(C.F:Int)≤s.mem .next;omega))
   apply qJ<;>(try intro j)<;>simp only[wv,view,St.wr,St.lay,St.to,St.put,St.holds,St.nZ,St.lJ,St.Bj,St.pS,got,fD,Int.toNat_natCast]<;>grind [sig,sC,jT]
  ·rename_i hn
   refine pG ?_ (Tr.spawn f hg VA (by show s.mem .next<(C.F:Int);omega))
   apply qJ<;>(try intro j)<;>simp only[wv,view,St.wr,St.lay,St.to,St.put,St.holds,St.nZ,St.lJ,St.Bj,St.pS,got,fD,Int.toNat_natCast]<;>grind [sig,sC,jT]
 ·split
  ·rename_i hn
   refine pG ?_ (Tr.wait f hg VA (by simpa [wv,view]using hn))
   apply qJ<;>(try intro j)<;>simp only[wv,view,St.wr,St.lay,St.to,St.put,St.holds,St.nZ,St.lJ,St.Bj,St.pS,got,fD,Int.toNat_natCast]<;>grind [sig,sC,jT]
  ·rename_i hn
   refine pG ?_ (Tr.pass f hg VA (by simpa [wv,view]using hn))
   apply qJ<;>(try intro j)<;>simp only[wv,view,St.wr,St.lay,St.to,St.put,St.holds,St.nZ,St.lJ,St.Bj,St.pS,got,fD,Int.toNat_natCast]<;>grind [sig,sC,jT]
 ·split
  ·rename_i h0
   subst h0
   refine pG ?_ (Tr.Pr _ hg VA)
   apply qJ<;>(try intro j)<;>simp only[wv,view,St.wr,St.lay,St.to,St.put,St.holds,St.nZ,St.lJ,St.Bj,St.pS,got,fD,Int.toNat_natCast]<;>grind [sig,sC,jT]
  ·rename_i h0
   refine pG ?_ (Tr.ret f _ hg VA h0)
   apply qJ<;>(try intro j)<;>simp only[wv,view,St.wr,St.lay,St.to,St.put,St.holds,St.nZ,St.lJ,St.Bj,St.pS,got,fD,Int.toNat_natCast]<;>grind [sig,sC,jT]
theorem Pw(hf:(view s).FI C.N C.F)(hd:DT C s)(hi:i<C.N)(d:Int):Tr C i (wv s) (step C s i d).ev (wv (step C s i d).s):=by
 cases hp:s.pc i with
 | zA c =>
  unfold Am.step;rw[hp];simp only
  exact fU rfl (by rw[hp];exact⟨rfl,rfl⟩) rfl rfl (λ_=>rfl) rfl rfl rfl rfl (λ_ _=>rfl) rfl
 | vR c b =>
  unfold Am.step;rw[hp];simp only
  exact fU rfl (by rw[hp];exact⟨rfl,rfl⟩) rfl rfl (λ_=>rfl) rfl rfl rfl rfl (λ_ _=>rfl) rfl
 | pJ c b t =>
  unfold Am.step;rw[hp];simp only
  exact fU rfl (by rw[hp];exact⟨rfl,rfl⟩) rfl rfl (λ_=>rfl) rfl rfl rfl rfl (λ_ _=>rfl) rfl
 | CR =>
  unfold Am.step;rw[hp];simp only
  exact fU rfl (by rw[hp];exact⟨rfl,rfl⟩) rfl rfl (λ_=>rfl) rfl rfl rfl rfl (λ_ _=>rfl) rfl
 | tH b =>
  unfold Am.step;rw[hp];simp only
  exact fU rfl (by rw[hp];exact⟨rfl,rfl⟩) rfl rfl (λ_=>rfl) rfl rfl rfl rfl (λ_ _=>rfl) rfl
 | sA b t =>
  unfold Am.step;rw[hp];simp only
  exact fU rfl (by rw[hp];exact⟨rfl,rfl⟩) rfl rfl (λ_=>rfl) rfl rfl rfl rfl (λ_ _=>rfl) rfl
 | oa =>
  unfold Am.step;rw[hp];simp only
  exact fU rfl (by rw[hp];exact⟨rfl,rfl⟩) rfl rfl (λ_=>rfl) rfl rfl rfl rfl (λ_ _=>rfl) rfl
 | oh v t =>
  unfold Am.step;rw[hp];simp only
  exact fU rfl (by rw[hp];exact⟨rfl,rfl⟩) rfl rfl (λ_=>rfl) rfl rfl rfl rfl (λ_ _=>rfl) rfl
 | nR v t g =>
  unfold Am.step;rw[hp];simp only
  exact fU rfl (by rw[hp];exact⟨rfl,rfl⟩) rfl rfl (λ_=>rfl) rfl rfl rfl rfl (λ_ _=>rfl) rfl
 | me v t g cc =>
  unfold Am.step;rw[hp];simp only
  exact fU rfl (by rw[hp];exact⟨rfl,rfl⟩) rfl rfl (λ_=>rfl) rfl rfl rfl rfl (λ_ _=>rfl) rfl
 | AU j =>
  unfold Am.step;rw[hp];simp only
  exact fU rfl (by rw[hp];exact⟨rfl,rfl⟩) rfl rfl (λ_=>rfl) rfl rfl rfl rfl (λ_ _=>rfl) rfl
 | kG c b t cc n =>
  unfold Am.step;rw[hp];simp only
  exact fU rfl (by rw[hp];exact⟨rfl,rfl⟩) rfl rfl (λ_=>rfl) rfl rfl rfl rfl (λ_ _=>rfl) rfl
 | nh c b t cc =>
  unfold Am.step;rw[hp];simp only
  exact fU rfl (by rw[hp];exact⟨rfl,rfl⟩) rfl rfl (λ_=>rfl) rfl rfl rfl rfl (λ_=>oJ rfl) rfl
 | ni c b t cc =>
  unfold Am.step;rw[hp];simp only
  exact fU rfl (by rw[hp];exact⟨rfl,rfl⟩) rfl rfl (λ_=>rfl) rfl rfl rfl rfl (λ_=>oJ rfl) rfl
 | kH c b cc =>
  unfold Am.step;rw[hp];simp only
  exact fU rfl (by rw[hp];exact⟨rfl,rfl⟩) rfl rfl (λ_=>rfl) rfl rfl rfl rfl (λ_=>oJ rfl) rfl
 | og b =>
  unfold Am.step;rw[hp];simp only
  exact fU rfl (by rw[hp];exact⟨rfl,rfl⟩) rfl rfl (λ_=>rfl) rfl rfl rfl rfl (λ_=>oJ rfl) rfl
 | flag =>
  unfold Am.step;rw[hp];simp only
  exact fU rfl (by rw[hp];exact⟨rfl,rfl⟩) rfl rfl (λ_=>rfl) rfl rfl rfl rfl (λ_=>oJ rfl) rfl
 | sleep =>
  unfold Am.step;rw[hp];simp only
  exact fU rfl (by rw[hp];exact⟨rfl,rfl⟩) rfl rfl (λ_=>rfl) rfl rfl rfl rfl (λ_=>oJ rfl) rfl
 | s5 j =>
  unfold Am.step;rw[hp];simp only
  exact fU rfl (by rw[hp];exact⟨rfl,rfl⟩) rfl rfl (λ_=>rfl) rfl rfl rfl rfl (λ_=>oJ rfl) rfl
 | grow c b t cc =>
  unfold Am.step;rw[hp];simp only
  exact fU rfl (by rw[hp];exact⟨rfl,rfl⟩) rfl rfl (λ_=>rfl) rfl rfl rfl rfl (λa ha=>by cases a<;>first | rfl | (simp[qR.Ty]at ha)) rfl
 | kO c b t cc n x =>
  unfold Am.step;rw[hp];simp only
  refine fU rfl (by rw[hp];split<;>exact⟨rfl,rfl⟩) rfl rfl (λ_=>rfl) rfl rfl rfl rfl (λ_=>oJ rfl) rfl
 | DA =>
  unfold Am.step;rw[hp];simp only
  refine fU rfl (by rw[hp];split<;>exact⟨rfl,rfl⟩) rfl rfl (λ_=>rfl) rfl rfl rfl rfl (λ_ _=>rfl) rfl
 | qG j =>
  unfold Am.step;rw[hp];simp only
  split
  ·exact fU rfl (by rw[hp];exact⟨rfl,rfl⟩) rfl rfl (λ_=>rfl) rfl rfl rfl rfl (λ_=>oJ rfl) rfl
  ·exact fU rfl (by rw[hp];split<;>exact⟨rfl,rfl⟩) rfl rfl (λ_=>rfl) rfl rfl rfl rfl (λ_ _=>rfl) rfl
 | nQ t =>
  unfold Am.step;rw[hp];simp only
  exact fU rfl (by rw[hp];split<;>exact⟨rfl,rfl⟩) rfl rfl (λ_=>rfl) rfl rfl rfl rfl (λ_=>oJ rfl) rfl
 | sB v t =>
  unfold Am.step;rw[hp];simp only
  split<;>exact fU rfl (by rw[hp];exact⟨rfl,rfl⟩) rfl rfl (λ_=>rfl) rfl rfl rfl rfl (λ_ _=>rfl) rfl
 | AD =>
  unfold Am.step;rw[hp];simp only
  split
  ·exact fU rfl (by rw[hp];exact⟨rfl,rfl⟩) rfl rfl (λ_=>rfl) rfl rfl rfl rfl (λ_ _=>rfl) rfl
  ·exact fU rfl (by rw[hp];split<;>exact⟨rfl,rfl⟩) rfl rfl (λ_=>rfl) rfl rfl rfl rfl (λ_ _=>rfl) rfl
 | so =>
  unfold Am.step;rw[hp];simp only[looking]
  split
  ·exact fU rfl (by rw[hp];exact⟨rfl,rfl⟩) rfl rfl (λ_=>rfl) rfl rfl rfl rfl (λ_ _=>rfl) rfl
  ·split<;>exact fU rfl (by rw[hp];exact⟨rfl,rfl⟩) rfl rfl (λ_=>rfl) rfl rfl rfl rfl (λ_ _=>rfl) rfl
 | zB j t =>
  unfold Am.step;rw[hp];simp only[looking]
  split
  ·exact fU rfl (by rw[hp];exact⟨rfl,rfl⟩) rfl rfl (λ_=>rfl) rfl rfl rfl rfl (λ_ _=>rfl) rfl
  ·split<;>exact fU rfl (by rw[hp];exact⟨rfl,rfl⟩) rfl rfl (λ_=>rfl) rfl rfl rfl rfl (λ_ _=>rfl) rfl
 | parked =>
  unfold Am.step;rw[hp];simp only
  split
  ·exact .fU none rfl
  ·exact fU rfl (by rw[hp];split<;>exact⟨rfl,rfl⟩) rfl rfl (λ_=>rfl) rfl rfl rfl rfl (λ_ _=>rfl) rfl
 | back b =>
  unfold Am.step;rw[hp];simp only[zC]
  split
  ·exact fU rfl (by rw[hp];exact⟨rfl,rfl⟩) rfl rfl (λ_=>rfl) rfl rfl rfl rfl (λ_=>oJ rfl) rfl
  ·split
   ·exact fU rfl (by rw[hp];exact⟨rfl,rfl⟩) rfl rfl (λ_=>rfl) rfl rfl rfl rfl (λ_ _=>rfl) rfl
   ·exact fU rfl (by rw[hp];split<;>exact⟨rfl,rfl⟩) rfl rfl (λ_=>rfl) rfl rfl rfl rfl (λ_ _=>rfl) rfl
 | s6 b =>
  unfold Am.step;rw[hp];simp only[zC]
  split
  ·exact fU rfl (by rw[hp];exact⟨rfl,rfl⟩) rfl rfl (λ_=>rfl) rfl rfl rfl rfl (λ_=>oJ rfl) rfl
  ·exact fU rfl (by rw[hp];split<;>exact⟨rfl,rfl⟩) rfl rfl (λ_=>rfl) rfl rfl rfl rfl (λ_=>oJ rfl) rfl
 | done =>
  unfold Am.step;rw[hp];simp only[nk]
  split<;>exact fU rfl (by rw[hp];exact⟨rfl,rfl⟩) rfl rfl (λ_=>rfl) rfl rfl rfl rfl (λ_=>oJ rfl) rfl
 | tell j =>
  unfold Am.step;rw[hp];simp only[nk]
  split
  ·exact fU rfl (by rw[hp];exact⟨rfl,rfl⟩) rfl rfl (λ_=>rfl) rfl rfl rfl rfl (λ_=>oJ rfl) rfl
  ·split<;>exact fU rfl (by rw[hp];exact⟨rfl,rfl⟩) rfl rfl (λ_=>rfl) rfl rfl rfl rfl (λ_ _=>rfl) rfl
 | ug j =>
  unfold Am.step;rw[hp];simp only[nk]
  split<;>exact fU rfl (by rw[hp];exact⟨rfl,rfl⟩) rfl rfl (λ_=>rfl) rfl rfl rfl rfl (λ_=>oJ rfl) rfl
 | pK c b t =>
  have hg:(view s).g i= .push c:=by show sig (s.pc i)=_;rw[hp];rfl
  unfold Am.step;rw[hp];simp only
  split
  ·exact fU rfl (by rw[hp];exact⟨rfl,rfl⟩) rfl rfl (λ_=>rfl) rfl rfl rfl rfl (λ_ _=>rfl) rfl
  ·split
   ·refine pG ?_ (Tr.full c hg)
    apply qJ<;>(try intro j)<;>simp only[wv,view,St.wr,St.lay,St.to,St.put,St.holds,St.nZ,St.lJ,St.Bj,St.pS,got,fD,Int.toNat_natCast]<;>grind [sig,sC,jT]
   ·exact fU rfl (by rw[hp];exact⟨rfl,rfl⟩) rfl rfl (λ_=>rfl) rfl rfl rfl rfl (λ_ _=>rfl) rfl
 | halted=>unfold Am.step;rw[hp];exact .fU none rfl
 | full=>unfold Am.step;rw[hp];exact .fU none rfl
 | run=>unfold Am.step;rw[hp];exact Nl hf hi hp
 | start x =>
  have hg:(view s).g i= .start:=by show sig (s.pc i)=_;rw[hp];rfl
  obtain⟨f,hh⟩:=rK hf hi (by rw[hp];rfl)
  unfold Am.step;rw[hp];simp only[hh,Option.getD_some]
  have hx:x=(wv s).fx i:=by show x=sC (s.pc i);rw[hp];rfl
  rw[hx]
  refine pG ?_ (Tr.start f hg hh)
  apply qJ<;>(try intro j)<;>simp only[wv,view,St.wr,St.lay,St.to,St.put,St.holds,St.nZ,St.lJ,St.Bj,St.pS,got,fD,Int.toNat_natCast]<;>grind [sig,sC,jT]
 | fork c =>
  have hg:(view s).g i= .fork c:=by show sig (s.pc i)=_;rw[hp];rfl
  obtain⟨f,hh⟩:=rK hf hi (by rw[hp];rfl)
  unfold Am.step;rw[hp];simp only[hh,Option.getD_some]
  refine pG ?_ (Tr.fork c f hg hh)
  apply qJ<;>(try intro j)<;>simp only[wv,view,St.wr,St.lay,St.to,St.put,St.holds,St.nZ,St.lJ,St.Bj,St.pS,got,fD,Int.toNat_natCast]<;>grind [sig,sC,jT]
 | pI =>
  have hg:(view s).g i= .one:=by show sig (s.pc i)=_;rw[hp];rfl
  obtain⟨f,hh⟩:=rK hf hi (by rw[hp];rfl)
  unfold Am.step;rw[hp];simp only[hh,Option.getD_some]
  refine pG ?_ (Tr.one f hg hh)
  apply qJ<;>(try intro j)<;>simp only[wv,view,St.wr,St.lay,St.to,St.put,St.holds,St.nZ,St.lJ,St.Bj,St.pS,got,fD,Int.toNat_natCast]<;>grind [sig,sC,jT]
 | out p c =>
  have hg:(view s).g i= .out p c:=by show sig (s.pc i)=_;rw[hp];rfl
  unfold Am.step;rw[hp];simp only
  split
  ·rename_i hn
   refine pG ?_ (Tr.Pu p c hg hn)
   apply qJ<;>(try intro j)<;>simp only[wv,view,St.wr,St.lay,St.to,St.put,St.holds,St.nZ,St.lJ,St.Bj,St.pS,got,fD,Int.toNat_natCast]<;>grind [sig,sC,jT]
  ·rename_i hn
   refine pG ?_ (Tr.Ps p c hg hn)
   apply qJ<;>(try intro j)<;>simp only[wv,view,St.wr,St.lay,St.to,St.put,St.holds,St.nZ,St.lJ,St.Bj,St.pS,got,fD,Int.toNat_natCast]<;>grind [sig,sC,jT]
 | take p c =>
  have hg:(view s).g i= .take p c:=by show sig (s.pc i)=_;rw[hp];rfl
  unfold Am.step;rw[hp];simp only
  refine pG ?_ (Tr.take p c hg)
  apply qJ<;>(try intro j)<;>simp only[wv,view,St.wr,St.lay,St.to,St.put,St.holds,St.nZ,St.lJ,St.Bj,St.pS,got,fD,Int.toNat_natCast]<;>grind [sig,sC,jT]
 | oC c b =>
  have hg:(view s).g i= .push c:=by show sig (s.pc i)=_;rw[hp];rfl
  obtain⟨f,hh⟩:=rK hf hi (by rw[hp];rfl)
  unfold Am.step;rw[hp];simp only[hh,Option.getD_some]
  refine pG ?_ (Tr.push c f hg hh)
  apply qJ<;>(try intro j)<;>simp only[wv,view,St.wr,St.lay,St.to,St.put,St.holds,St.nZ,St.lJ,St.Bj,St.pS,got,fD,Int.toNat_natCast]<;>grind [sig,sC,jT]
 | AB b =>
  have hg:(view s).g i= .none:=by show sig (s.pc i)=_;rw[hp];rfl
  have P:=(hd.1 i hi).ph
  unfold n3 at P;rw[hp]at P;simp only at P
  unfold Am.step;rw[hp];simp only
  split
  ·rename_i hlt
   have hne:s.q i≠[]:=by
    intro e;simp only[St.L,St.T,e,List.length_nil]at P;omega
   have hq:s.q i=(s.q i).dropLast++[(s.q i).getLastD 0]:=by
    rw[List.getLastD_eq_getLast?,List.getLast?_eq_some_getLast hne];exact(List.dropLast_concat_getLast hne).symm
   refine pG ?_ (Tr.lJ ((s.q i).getLastD 0) ((s.q i).dropLast) hg hq)
   apply qJ<;>(try intro j)<;>simp only[wv,view,St.wr,St.lay,St.to,St.put,St.holds,St.nZ,St.lJ,St.Bj,St.pS,got,fD,Int.toNat_natCast]<;>grind [sig,sC,jT]
  ·split<;>exact fU rfl (by rw[hp];exact⟨rfl,rfl⟩) rfl rfl (λ_=>rfl) rfl rfl rfl rfl (λ_ _=>rfl) rfl
 | oR b t cc =>
  have hg:(view s).g i= .none:=by show sig (s.pc i)=_;rw[hp];rfl
  have P:=(hd.1 i hi).ph
  unfold n3 at P;rw[hp]at P;simp only at P
  unfold Am.step;rw[hp];simp only
  split
  ·rename_i hlt
   obtain⟨x,hx,he⟩:=(P.1.2.2.2.1 hlt).2.2
   rw[←P.2]at he
   rw[he]
   refine pG ?_ (Tr.got x hg hx)
   apply qJ<;>(try intro j)<;>simp only[wv,view,St.wr,St.lay,St.to,St.put,St.holds,St.nZ,St.lJ,St.Bj,St.pS,got,fD,Int.toNat_natCast]<;>grind [sig,sC,jT]
  ·exact fU rfl (by rw[hp];exact⟨rfl,rfl⟩) rfl rfl (λ_=>rfl) rfl rfl rfl rfl (λ_ _=>rfl) rfl
 | rC b t x =>
  have hg:(view s).g i= .none:=by show sig (s.pc i)=_;rw[hp];rfl
  have P:=(hd.1 i hi).ph
  unfold n3 at P;rw[hp]at P;simp only at P
  unfold Am.step;rw[hp];simp only
  split
  ·rename_i ht
   have hq:=(P.2.2.2.2.1 ht).1
   refine pG ?_ (Tr.Pv x.toNat hg hq)
   apply qJ<;>(try intro j)<;>simp only[wv,view,St.wr,St.lay,St.to,St.put,St.holds,St.nZ,St.lJ,St.Bj,St.pS,got,fD,Int.toNat_natCast]<;>grind [sig,sC,jT]
  ·exact fU rfl (by rw[hp];exact⟨rfl,rfl⟩) rfl rfl (λ_=>rfl) rfl rfl rfl rfl (λ_ _=>rfl) rfl
 | pR t x wG =>
  have hg:(view s).g i= .none:=by show sig (s.pc i)=_;rw[hp];rfl
  have P:=(hd.1 i hi).ph
  unfold n3 at P;rw[hp]at P;simp only at P
  unfold Am.step;rw[hp];simp only
  split
  ·rename_i hw
   refine pG ?_ (Tr.got x.toNat hg (P.2.2.2 hw).1)
   apply qJ<;>(try intro j)<;>simp only[wv,view,St.wr,St.lay,St.to,St.put,St.holds,St.nZ,St.lJ,St.Bj,St.pS,got,fD,Int.toNat_natCast]<;>grind [sig,sC,jT]
  ·exact fU rfl (by rw[hp];split<;>exact⟨rfl,rfl⟩) rfl rfl (λ_=>rfl) rfl rfl rfl rfl (λ_=>oJ rfl) rfl
 | nj v t x =>
  have hg:(view s).g i= .none:=by show sig (s.pc i)=_;rw[hp];rfl
  have HT:=hd.2 i hi
  unfold Th at HT;rw[hp]at HT;simp only at HT
  unfold Am.step;rw[hp];simp only
  split
  ·rename_i ht
   obtain⟨y,l,hq,hx⟩:=HT.2.2.2 ht.symm
   subst hx
   refine pG ?_ (Tr.JQ v y l HT.1 HT.2.1 hg hq)
   apply qJ<;>(try intro j)<;>simp only[wv,view,St.wr,St.lay,St.to,St.put,St.holds,St.nZ,St.lJ,St.Bj,St.pS,got,fD,Int.toNat_natCast]<;>grind [sig,sC,jT]
  ·exact fU rfl (by rw[hp];exact⟨rfl,rfl⟩) rfl rfl (λ_=>rfl) rfl rfl rfl rfl (λ_ _=>rfl) rfl
theorem FI.step(hf:(view s).FI C.N C.F)(hd:DT C s)(hi:i<C.N)(d:Int):(view (step C s i d).s).FI C.N C.F:=(Pw hf hd hi d).fi hi hf
end
def Nm(C:k8)(g a:Nat):Prop:=
 match C.code g a with
 | .const x _=>x<C.cg g∧a+1<C.len g
 | .nr x=>x<C.cg g∧a+1<C.len g
 | .move x y=>x<C.cg g∧y<C.cg g∧a+1<C.len g
 | .arith op x y z=>x<C.cg g∧y<C.cg g∧z<C.cg g∧a+1<C.len g
 | .jump t=>t<C.len g
 | .branch x t=>x<C.cg g∧t<C.len g∧a+1<C.len g
 | .spawn s f c=>s<8∧f<C.QM∧(C.params f=0∨c+C.params f≤C.cg g)∧a+1<C.len g
 | .sync=>a+1<C.len g
 | .load x s=>x<C.cg g∧s<8∧a+1<C.len g
 | .ret x=>x<C.cg g
structure k8.OK(C:k8):Prop where
 n1:1≤C.N
 n64:C.N≤64
 f1:1≤C.F
 f4:C.F≤4096
 c1:1≤C.first
 cm:C.first≤C.most
 m4:C.most≤4096
 fn0:0<C.QM
 Sm:∀g,g<C.QM→0<C.len g
 E8:∀g,g<C.QM→C.params g≤C.cg g∧C.cg g≤16
 ins:∀g,g<C.QM→∀a,a<C.len g→Nm C g a
def live:Loc→Bool
 | .fin _ | .gone=>false
 | _=>true
def FR1(C:k8)(x:Fr)(l:Loc):Prop:=x.fn<C.QM∧x.slot<8∧(live l=true→x.ag<C.len x.fn)
def FR(C:k8)(s:St):Prop:=∀f,f<s.nf→FR1 C (s.fr f) (s.loc f)
section
variable {C:k8}{s:St}{i:Nat}
theorem FR.fU{s':St}(h:FR C s)(h1:s'.nf=s.nf)(h2:s'.fr=s.fr)(h3:s'.loc=s.loc):FR C s':=by
 intro f hf;rw[h2,h3];exact h f (h1▸ hf)
theorem FR.put{s':St}{f:Nat}{l:Loc}(h:FR C s)(h1:s'.nf=s.nf)(h2:s'.fr=s.fr)(h3:s'.loc=fE s.loc f l)(hl:live l=true→live (s.loc f)=true):FR C s':=by
 intro g hg;rw[h2,h3,fD];have:=h g (h1▸ hg)
 split
 ·next e=>subst e;exact⟨this.1,this.2.1,λhh=>this.2.2 (hl hh)⟩
 ·exact this
theorem FR.lay{s':St}{f:Nat}{x:Fr}(h:FR C s)(h1:s'.nf=s.nf)(h2:s'.fr=fE s.fr f x)(h3:s'.loc=s.loc)(hx:f<s.nf→FR1 C x (s.loc f)):FR C s':=by
 intro g hg;rw[h2,h3,fD];have I7:=h1▸ hg
 split
 ·next e=>subst e;exact hx I7
 ·exact h g I7
theorem zE(hf:(view s).FI C.N C.F)(hi:i<C.N){f:Nat}(hh:s.hold i=some f):live (s.loc f)=true∧f<s.nf:=by
 have a:=hf.hold i f hi hh
 have e:s.loc f= .qH i∨s.loc f= .held i:=a.elim (λa=>.inl a.2) (λa=>.inr a.2)
 refine⟨by rcases e with e | e<;>rw[e]<;>rfl,?_⟩
 rcases Nat.lt_or_ge f s.nf with h | h
 ·exact h
 ·have:=hf.free f h;change s.loc f=_ at this;rw[this]at e;rcases e with e | e<;>cases e
theorem FR.instr(hC:C.OK)(h:FR C s)(hf:(view s).FI C.N C.F)(hi:i<C.N)(hp:s.pc i= .run):FR C (instr C s i).s:=by
 obtain⟨f,hh⟩:=rK hf hi (by rw[hp];rfl)
 obtain⟨hl,hn⟩:=zE hf hi hh
 obtain⟨a1,a2,a3⟩:=h f hn
 have a3:=a3 hl
 have ok:=hC.ins _ a1 _ a3
 unfold Nm at ok
 unfold Am.instr;simp only[hh,Option.getD_some]
 split<;>rename_i hc<;>rw[hc]at ok<;>simp only at ok
 ·exact h.lay rfl rfl rfl (λ_=>⟨a1,a2,λ_=>ok.2⟩)
 ·exact h.lay rfl rfl rfl (λ_=>⟨a1,a2,λ_=>ok.2.2⟩)
 ·exact h.lay rfl rfl rfl (λ_=>⟨a1,a2,λ_=>ok.2.2.2⟩)
 ·exact h.lay rfl rfl rfl (λ_=>⟨a1,a2,λ_=>ok⟩)
 ·exact h.lay rfl rfl rfl (λ_=>by
   split
   ·exact⟨a1,a2,λ_=>ok.2.1⟩
   ·exact⟨a1,a2,λ_=>ok.2.2⟩)
 ·exact h.lay rfl rfl rfl (λ_=>⟨a1,a2,λ_=>ok.2⟩)
 ·exact h.lay rfl rfl rfl (λ_=>⟨a1,a2,λ_=>ok.2.2⟩)
 ·split
  ·exact h.lay rfl rfl rfl (λ_=>⟨a1,a2,λ_=>ok.2.2.2⟩)
  ·intro g hg
   simp only[St.wr,St.lay,St.to,St.put,fD]
   split
   ·next e=>subst e;exact⟨ok.2.1,ok.1,λ_=>hC.Sm _ ok.2.1⟩
   ·next e =>
    have I7:g<s.nf:=by have:g<s.nf+1:=hg;omega
    split
    ·next e=>subst e;exact⟨a1,a2,λ_=>ok.2.2.2⟩
    ·exact h g I7
 ·split
  ·intro g hg
   simp only[St.wr,St.lay,St.to,St.put,St.holds,fD]
   split
   ·next e=>exact⟨a1,a2,λ_=>ok⟩
   ·exact h g hg
  ·intro g hg
   simp only[St.wr,St.lay,St.to,St.put,St.holds,fD]
   split
   ·next e=>exact⟨a1,a2,λ_=>ok⟩
   ·exact h g hg
 ·split
  ·next e0 =>
   subst e0
   intro g hg
   simp only[St.wr,St.lay,St.to,St.put,St.holds,fD]
   split
   ·next e=>exact⟨a1,a2,λe=>by cases e⟩
   ·exact h g hg
  ·intro g hg
   simp only[St.wr,St.lay,St.to,St.put,St.holds,fD]
   split
   ·next e=>exact⟨a1,a2,λe=>by cases e⟩
   ·exact h g hg
theorem FR.step(hC:C.OK)(h:FR C s)(hf:(view s).FI C.N C.F)(hd:DT C s)(hi:i<C.N)(d:Int):FR C (step C s i d).s:=by
 cases hp:s.pc i with
 | run=>unfold Am.step;rw[hp];exact FR.instr hC h hf hi hp
 | pI =>
  obtain⟨f,hh⟩:=rK hf hi (by rw[hp];rfl)
  unfold Am.step;rw[hp];simp only[hh,Option.getD_some]
  exact h.put rfl rfl rfl (λ_=>(zE hf hi hh).1)
 | out p c =>
  have hg:(view s).g i= .out p c:=by show sig (s.pc i)=_;rw[hp];rfl
  unfold Am.step;rw[hp];simp only
  split
  ·rename_i hn
   have hw:s.loc p= .waiting:=(hf.jy hi hg hn).1
   have h1:FR C (s.put c .gone):=h.put rfl rfl rfl (λe=>by cases e)
   refine FR.put (f:=p) (l:=.w7 i) h1 rfl rfl rfl (λ_ => ?_)
   show live (fE s.loc c .gone p)=true
   rw[bA (hf.jy hi hg hn).2.2,hw];rfl
  ·exact h.put rfl rfl rfl (λe=>by cases e)
 | take p c =>
  have hg:(view s).g i= .take p c:=by show sig (s.pc i)=_;rw[hp];rfl
  unfold Am.step;rw[hp];simp only
  exact h.put rfl rfl rfl (λ_=>by rw[show s.loc p= .w7 i from hf.tk i p c hi hg];rfl)
 | oC c b =>
  have hg:(view s).g i= .push c:=by show sig (s.pc i)=_;rw[hp];rfl
  unfold Am.step;rw[hp];simp only
  exact h.put rfl rfl rfl (λ_=>by rw[show s.loc c= .bM i from(hf.ps i c hi hg).2.1];rfl)
 | AB b =>
  have P:=(hd.1 i hi).ph
  unfold n3 at P;rw[hp]at P;simp only at P
  unfold Am.step;rw[hp];simp only
  split
  ·rename_i hlt
   have hne:s.q i≠[]:=by
    intro e;simp only[St.L,St.T,e,List.length_nil]at P;omega
   have hm:(s.q i).getLastD 0∈s.q i:=by
    rw[List.getLastD_eq_getLast?,List.getLast?_eq_some_getLast hne];exact List.getLast_mem hne
   exact h.put rfl rfl rfl (λ_=>by rw[show s.loc _= .QN i from(hf.q i _ hi hm).2];rfl)
  ·split<;>exact h.fU rfl rfl rfl
 | oR b t cc =>
  have P:=(hd.1 i hi).ph
  unfold n3 at P;rw[hp]at P;simp only at P
  unfold Am.step;rw[hp];simp only
  split
  ·rename_i hlt
   obtain⟨x,hx,he⟩:=(P.1.2.2.2.1 hlt).2.2
   rw[←P.2]at he
   rw[he]
   refine h.put (f:=x) (l:=.held i) rfl rfl (by simp only[got,St.put,St.lJ,St.to,St.holds,Int.toNat_natCast]) (λ_ => ?_)
   rw[show s.loc x= .pop i from(hf.pop i x hi hx).2];rfl
  ·exact h.fU rfl rfl rfl
 | rC b t x =>
  have P:=(hd.1 i hi).ph
  unfold n3 at P;rw[hp]at P;simp only at P
  unfold Am.step;rw[hp];simp only
  split
  ·rename_i ht
   have hq:=(P.2.2.2.2.1 ht).1
   exact h.put rfl rfl rfl (λ_=>by rw[show s.loc x.toNat= .QN i from(hf.q i _ hi (by show x.toNat∈s.q i;rw[hq];simp)).2];rfl)
  ·exact h.fU rfl rfl rfl
 | pR t x wG =>
  have P:=(hd.1 i hi).ph
  unfold n3 at P;rw[hp]at P;simp only at P
  unfold Am.step;rw[hp];simp only
  split
  ·rename_i hw
   exact h.put (f:=x.toNat) (l:=.held i) rfl rfl rfl (λ_=>by rw[show s.loc x.toNat= .pop i from(hf.pop i _ hi (P.2.2.2 hw).1).2];rfl)
  ·exact h.fU rfl rfl rfl
 | nj v t x =>
  have HT:=hd.2 i hi
  unfold Th at HT;rw[hp]at HT;simp only at HT
  unfold Am.step;rw[hp];simp only
  split
  ·rename_i ht
   obtain⟨y,l,hq,hx⟩:=HT.2.2.2 ht.symm
   exact h.put (f:=x.toNat) (l:=.held i) rfl rfl rfl (λ_=>by rw[show s.loc x.toNat= .QN v from(hf.q v _ HT.1 (by show x.toNat∈s.q v;rw[hq,hx];simp)).2];rfl)
  ·exact h.fU rfl rfl rfl
 | _ =>
  unfold Am.step;rw[hp];simp only[nk,looking,zC]
  repeat' split
  all_goals exact h.fU rfl rfl rfl
end
def qY(C:k8):Nat→Nat
 | 0=>C.first
 | g+1=>min (2*qY C g) C.most
def jC:Pc→Bool
 | .nh .. | .kG .. | .kO .. | .ni .. => true
 | _=>false
def gen(s:St)(j:Nat):Nat:=s.cur j+(if jC (s.pc j)then 1 else 0)
def tot(C:k8):Nat→Nat
 | 0=>0
 | g+1=>tot C g+1+qY C (g+1)
def S0(C:k8):Nat:=4+10*C.F+C.N+C.N*(4+C.first)
def sD(C:k8)(j:Nat):Nat:=4+10*C.F+C.N+j*(4+C.first)
def AG(f:Nat→Nat):Nat→Nat
 | 0=>0
 | n+1=>AG f n+f n
theorem yA{f g:Nat→Nat}:∀{n:Nat},(∀j,j<n→f j=g j)→AG f n=AG g n
 | 0,_=>rfl
 | n+1,h=>by simp only[AG];rw[yA (λj hj=>h j (by omega)),h n (by omega)]
theorem GJ{f g:Nat→Nat}{i k:Nat}:∀{n:Nat},i<n→(∀j,j≠i→g j=f j)→g i=f i+k→AG g n=AG f n+k
 | n+1,hi,h,e=>by
  simp only[AG]
  by_cases hn:i=n
  ·subst hn;rw[yA (f:=g) (g:=f) (λj hj=>h j (by omega)),e];omega
  ·rw[GJ (n:=n) (by omega) h e,h n (by omega)];omega
theorem JR{f:Nat→Nat}{k:Nat}:∀{n:Nat},(∀j,j<n→f j≤k)→AG f n≤n*k
 | 0,_=>by simp[AG]
 | n+1,h=>by simp only[AG];have:=JR (n:=n) (λj hj=>h j (by omega));have:=h n (by omega);rw[Nat.succ_mul];omega
theorem vA(C:k8)(g:Nat):ij C (qY C g)=(qY C (g+1):Int):=by
 unfold ij;simp only[qY];split<;>omega
theorem Bx{C:k8}(h:C.OK):∀g,1≤qY C g
 | 0=>h.c1
 | g+1=>by have:=Bx h g;have:=h.c1;have:=h.cm;simp only[qY];omega
theorem Ix{C:k8}(h:C.OK):∀g,qY C g≤C.most
 | 0=>h.cm
 | g+1=>by simp only[qY];omega
structure SZ(C:k8)(s:St):Prop where
 cap:∀j,j<C.N→∀g,g≤s.cur j→s.mem (.cap j g)=qY C g
 Nn:∀j,j<C.N→s.base j 0=sD C j+3
 size:s.size=S0 C+AG (λj=>tot C (gen s j)) C.N
 bs:∀j,j<C.N→∀g,1≤g→g≤gen s j→(S0 C:Int)≤s.base j g∧s.base j g+1+qY C g≤s.size
 dj:∀j j' g g',j<C.N→j'<C.N→1≤g→1≤g'→g≤gen s j→g'≤gen s j'→(j≠j'∨g≠g')→s.base j g+1+qY C g≤s.base j' g'∨s.base j' g'+1+qY C g'≤s.base j g
 gm:∀j,j<C.N→∀g,g<gen s j→qY C g<C.most
section
variable {C:k8}{s:St}{i:Nat}
theorem SZ.of{s':St}(h:SZ C s)(h1:s'.cur=s.cur)(h2:∀j,jC (s'.pc j)=jC (s.pc j))(h3:s'.base=s.base)(h4:s'.size=s.size)
 (h5:∀j g,g≤s.cur j→s'.mem (.cap j g)=s.mem (.cap j g)):SZ C s':=by
 obtain⟨a1,a2,a3,a4,a5,a6⟩:=h
 have hg:gen s'=gen s:=by funext j;unfold gen;rw[h1,h2]
 exact⟨λj hj g Iy=>by rw[h1]at Iy;rw[h5 j g Iy];exact a1 j hj g Iy,by rw[h3];exact a2,by rw[h4,hg];exact a3,by rw[h3,h4,hg];exact a4,by rw[h3,hg];exact a5,by rw[hg];exact a6⟩
def qR.JS:qR→Bool
 | .cap .. => true
 | _=>false
theorem GK{s':St}{p:Pc}(h:s'.pc=fE s.pc i p)(hp:jC p=jC (s.pc i))(j:Nat):jC (s'.pc j)=jC (s.pc j):=by
 rw[h,fD];split
 ·next e=>rw[e,hp]
 ·rfl
theorem SZ.fU{s':St}{p:Pc}(h:SZ C s)(hp:s'.pc=fE s.pc i p)(hg:jC p=jC (s.pc i))(h1:s'.cur=s.cur)(h3:s'.base=s.base)(h4:s'.size=s.size)
 (hm:∀a,a.JS=true→s'.mem a=s.mem a):SZ C s':=
 h.of h1 (GK hp hg) h3 h4 (λ_ _ _=>hm _ rfl)
theorem sE{a x:qR}{v:Int}(h:a.JS=false):x.JS=true→(s.wr a v).mem x=s.mem x:=λhx=>lf (by rintro rfl;rw[h]at hx;cases hx)
theorem SZ.same{s':St}(h:SZ C s)(hp:s'.pc=s.pc)(h1:s'.cur=s.cur)(h3:s'.base=s.base)(h4:s'.size=s.size)
 (hm:∀a,a.JS=true→s'.mem a=s.mem a):SZ C s':=
 h.of h1 (λj=>by rw[hp]) h3 h4 (λ_ _ _=>hm _ rfl)
theorem SZ.instr(h:SZ C s)(hp:s.pc i= .run):SZ C (instr C s i).s:=by
 unfold Am.instr;simp only
 split
 ·exact h.same rfl rfl rfl rfl (λ_ _=>rfl)
 ·exact h.same rfl rfl rfl rfl (λ_ _=>rfl)
 ·exact h.same rfl rfl rfl rfl (λ_ _=>rfl)
 ·exact h.same rfl rfl rfl rfl (λ_ _=>rfl)
 ·exact h.same rfl rfl rfl rfl (λ_ _=>rfl)
 ·exact h.same rfl rfl rfl rfl (λ_ _=>rfl)
 ·exact h.same rfl rfl rfl rfl (λ_ _=>rfl)
 ·split<;>exact h.fU rfl (by rw[hp];rfl) rfl rfl rfl (λ_=>sE rfl)
 ·split<;>exact h.fU rfl (by rw[hp];rfl) rfl rfl rfl (λ_=>sE rfl)
 ·split<;>exact h.fU rfl (by rw[hp];rfl) rfl rfl rfl (λ_=>sE rfl)
theorem AH(h:SZ C s)(hi:i<C.N):s.cc i=qY C (s.cur i):=h.cap i hi _ (Nat.le_refl _)
theorem SZ.step(hC:C.OK)(h:SZ C s)(hd:DT C s)(hi:i<C.N)(d:Int):SZ C (step C s i d).s:=by
 have P:=(hd.1 i hi).ph
 cases hp:s.pc i with
 | run=>unfold Am.step;rw[hp];exact h.instr hp
 | halted=>unfold Am.step;rw[hp];exact h
 | full=>unfold Am.step;rw[hp];exact h
 | parked =>
  unfold Am.step;rw[hp];simp only
  split
  ·exact h
  ·exact h.fU rfl (by rw[hp];split<;>rfl) rfl rfl rfl (λ_ _=>rfl)
 | grow c b t cc =>
  unfold n3 at P;rw[hp]at P;simp only at P
  have hg:gen s i=s.cur i:=by unfold gen;rw[hp];rfl
  have LH:cc=qY C (s.cur i):=by rw[P.2.2.2.2.1];exact AH h hi
  have hb:ij C cc=qY C (s.cur i+1):=by rw[LH];exact vA C _
  unfold Am.step;rw[hp];simp only
  obtain⟨a1,a2,a3,a4,a5,a6⟩:=h
  have hs:(S0 C:Int)≤s.size:=by rw[a3];omega
  refine⟨?_,?_,?_,?_,?_,?_⟩
  ·intro j hj g Iy
   simp only[St.to]at Iy⊢
   rw[fh (by rintro⟨rfl,rfl⟩;omega)]
   exact a1 j hj g Iy
  ·intro j hj
   simp only[St.to,fD]
   split
   ·next e=>subst e;rw[bA (by omega)];exact a2 j hj
   ·exact a2 j hj
  ·simp only[St.to]
   rw[GJ (f:=λj=>tot C (gen s j)) (i:=i) (k:=1+qY C (s.cur i+1)) hi,a3,hb]
   ·omega
   ·intro j hj;unfold gen;simp only[bA hj]
   ·unfold gen;simp only[bQ,jC,if_true,hp]
    simp only[tot,Bool.false_eq_true,if_false,Nat.add_zero];omega
  ·intro j hj g h1 h2
   simp only[St.to]at h2⊢
   by_cases e:j=i
   ·subst e
    simp only[gen,bQ,jC,if_true]at h2
    simp only[bQ]
    by_cases e2:g=s.cur j+1
    ·subst e2;rw[bQ,hb];exact⟨hs,by omega⟩
    ·rw[bA e2,hb]
     have:=a4 j hj g h1 (by rw[hg];omega)
     exact⟨this.1,by omega⟩
   ·simp only[gen,bA e]at h2
    simp only[bA e]
    have:=a4 j hj g h1 (by unfold gen;exact h2)
    exact⟨this.1,by omega⟩
  ·intro j j' g g' hj hj' h1 Ws h2 TA hne
   simp only[St.to]at h2 TA⊢
   have key:∀k x,k<C.N→1≤x→x≤gen s k→s.base k x+1+qY C x≤s.size:=λk x hk h1 h2=>(a4 k hk x h1 h2).2
   have gk:∀k x,x≤gen {s with base:=fE s.base i (fE (s.base i) (s.cur i+1) s.size),pc:=fE s.pc i (.nh c b t cc)} k→(k=i∧x=s.cur i+1)∨(x≤gen s k∧¬(k=i∧x=s.cur i+1)):=by
    intro k x hx
    by_cases e:k=i
    ·subst e;simp only[gen,bQ,jC,if_true]at hx
     by_cases e2:x=s.cur k+1
     ·exact .inl ⟨rfl,e2⟩
     ·exact .inr ⟨by rw[hg];omega,λh=>e2 h.2⟩
    ·simp only[gen,bA e]at hx
     exact .inr ⟨hx,λh=>e h.1⟩
   have bk:∀k x,¬(k=i∧x=s.cur i+1)→fE s.base i (fE (s.base i) (s.cur i+1) s.size) k x=s.base k x:=by
    intro k x hx
    simp only[fD]
    split
    ·next e=>subst e;rw[bA (λe=>hx ⟨rfl,e⟩)]
    ·rfl
   have bn:fE s.base i (fE (s.base i) (s.cur i+1) s.size) i (s.cur i+1)=s.size:=by rw[bQ,bQ]
   rcases gk j g h2 with ⟨rfl,rfl⟩ | ⟨c1,c2⟩
   ·rcases gk j' g' TA with ⟨rfl,rfl⟩ | ⟨ZQ,ZR⟩
    ·simp at hne
    ·right;rw[bn,bk _ _ ZR];exact key j' g' hj' Ws ZQ
   ·rcases gk j' g' TA with ⟨rfl,rfl⟩ | ⟨ZQ,ZR⟩
    ·left;rw[bn,bk _ _ c2];exact key j g hj h1 c1
    ·rw[bk _ _ c2,bk _ _ ZR];exact a5 j j' g g' hj hj' h1 Ws c1 ZQ hne
  ·intro j hj g Iy
   simp only[St.to]at Iy
   by_cases e:j=i
   ·subst e;simp only[gen,bQ,jC,if_true]at Iy
    by_cases e2:g=s.cur j
    ·have:=P.2.2.2.2.2.2;rw[LH]at this;rw[e2];omega
    ·exact a6 j hj g (by rw[hg];omega)
   ·simp only[gen,bA e]at Iy;exact a6 j hj g Iy
 | nh c b t cc =>
  unfold Am.step;rw[hp];simp only
  refine h.of rfl (GK (p:=.kG c b t cc t) rfl (by rw[hp];rfl)) rfl rfl (λj g hg=>lf (by intro e;cases e;omega))
 | kO c b t cc n x =>
  unfold Am.step;rw[hp];simp only
  exact h.fU rfl (by rw[hp];split<;>rfl) rfl rfl rfl (λ_=>sE rfl)
 | ni c b t cc =>
  unfold n3 at P;rw[hp]at P;simp only at P
  have hcap:=P.2.1
  rw[AH h hi,vA]at hcap
  unfold Am.step;rw[hp];simp only
  obtain⟨a1,a2,a3,a4,a5,a6⟩:=h
  have hg:gen {s.wr (.buf i) (s.base i (s.cur i+1))with cur:=fE s.cur i (s.cur i+1),pc:=fE s.pc i (.kH c b (ij C cc))}=gen s:=by
   funext j;unfold gen
   by_cases e:j=i
   ·subst e;simp only[bQ,hp,jC,if_true];rfl
   ·simp only[bA e]
  have I7:gen (({s.wr (.buf i) (s.base i (s.cur i+1))with cur:=fE s.cur i (s.cur i+1)}:St).to i (.kH c b (ij C cc)))=gen s:=hg
  refine⟨?_,a2,by rw[I7];exact a3,by rw[I7];exact a4,by rw[I7];exact a5,by rw[I7];exact a6⟩
  intro j hj g Iy
  show fE s.mem (.buf i) (s.base i (s.cur i+1)) (.cap j g)=_
  rw[bA (by simp)]
  by_cases e:j=i
  ·subst e;simp only[St.to,bQ]at Iy
   by_cases e2:g=s.cur j+1
   ·rw[e2];exact hcap
   ·exact a1 j hj g (by omega)
  ·simp only[St.to,bA e]at Iy;exact a1 j hj g Iy
 | back b =>
  unfold Am.step;rw[hp];simp only[zC]
  split
  ·exact h.fU rfl (by rw[hp];rfl) rfl rfl rfl (λ_=>sE rfl)
  ·split
   ·exact h.fU rfl (by rw[hp];rfl) rfl rfl rfl (λ_ _=>rfl)
   ·exact h.fU rfl (by rw[hp];split<;>rfl) rfl rfl rfl (λ_ _=>rfl)
 | s6 b =>
  unfold Am.step;rw[hp];simp only[zC]
  split
  ·exact h.fU rfl (by rw[hp];rfl) rfl rfl rfl (λ_=>sE rfl)
  ·exact h.fU rfl (by rw[hp];split<;>rfl) rfl rfl rfl (λ_=>sE rfl)
 | nQ t =>
  unfold Am.step;rw[hp];simp only
  exact h.fU rfl (by rw[hp];split<;>rfl) rfl rfl rfl (λ_=>sE rfl)
 | pR t x wG =>
  unfold Am.step;rw[hp];simp only
  split
  ·exact h.fU rfl (by rw[hp];rfl) rfl rfl rfl (λ_=>sE rfl)
  ·exact h.fU rfl (by rw[hp];split<;>rfl) rfl rfl rfl (λ_=>sE rfl)
 | DA =>
  unfold Am.step;rw[hp];simp only
  exact h.fU rfl (by rw[hp];split<;>rfl) rfl rfl rfl (λ_ _=>rfl)
 | qG j =>
  unfold Am.step;rw[hp];simp only
  split
  ·exact h.fU rfl (by rw[hp];rfl) rfl rfl rfl (λ_=>sE rfl)
  ·exact h.fU rfl (by rw[hp];split<;>rfl) rfl rfl rfl (λ_ _=>rfl)
 | AD =>
  unfold Am.step;rw[hp];simp only
  split
  ·exact h.fU rfl (by rw[hp];rfl) rfl rfl rfl (λ_ _=>rfl)
  ·exact h.fU rfl (by rw[hp];split<;>rfl) rfl rfl rfl (λ_ _=>rfl)
 | _ =>
  unfold Am.step;rw[hp];simp only[nk,looking,zC]
  repeat' split
  all_goals first
   | exact h.fU rfl (by rw[hp];rfl) rfl rfl rfl (λ_ _=>rfl)
   | exact h.fU rfl (by rw[hp];rfl) rfl rfl rfl (λ_=>sE rfl)
end
def qR.GL:qR→Bool
 | .next | .join _ | .mark _ | .qa | .top _ | .bot _=>true
 | _=>false
def fM:Pc→List Int
 | .vR _ b=>[b]
 | .pJ _ b t | .pK _ b t | .grow _ b t _ | .nh _ b t _ | .ni _ b t _=>[b,t]
 | .kG _ b t _ n | .kO _ b t _ n _=>[b,t,n]
 | .kH _ b _ | .oC _ b=>[b]
 | .tH b | .og b | .AB b=>[b]
 | .nQ t=>[t]
 | .sA b t | .oR b t _ | .rC b t _=>[b,t]
 | .pR t _ _=>[t]
 | .sB _ t | .oh _ t | .nR _ t _ | .me _ t _ _ | .nj _ t _=>[t]
 | .zB _ t=>[t]
 | _=>[]
def E9(x:Int)(n:Nat):Prop:=-(n:Int)≤x∧x≤n
structure BD(s:St)(n:Nat):Prop where
 m:∀a,a.GL=true→E9 (s.mem a) (n+1)
 r:∀i,∀x∈fM (s.pc i),E9 x (n+1)
 k:∀f,(s.fr f).ck≤n
section
variable {C:k8}{s:St}{i n:Nat}
theorem E9.mono{x:Int}{m:Nat}(h:E9 x n)(hm:n≤m):E9 x m:=⟨by have:=h.1;omega,by have:=h.2;omega⟩
theorem E9.inc{x:Int}(h:E9 x n):E9 (x+1) (n+1):=⟨by have:=h.1;omega,by have:=h.2;omega⟩
theorem E9.dec{x:Int}(h:E9 x n):E9 (x-1) (n+1):=⟨by have:=h.1;omega,by have:=h.2;omega⟩
theorem BD.of{s':St}{p:Pc}(h:BD s n)(hm:∀a,a.GL=true→E9 (s'.mem a) (n+2))(hp:s'.pc=fE s.pc i p)(hr:∀x∈fM p,E9 x (n+2))(hk:∀f,(s'.fr f).ck≤n+1):BD s' (n+1):=
 ⟨hm,λj x hx=>by
  rw[hp,fD]at hx;split at hx
  ·exact hr x hx
  ·exact(h.r j x hx).mono (by omega),hk⟩
theorem BD.mem(h:BD s n){a:qR}(ha:a.GL=true):E9 (s.mem a) (n+2):=(h.m a ha).mono (by omega)
theorem BD.wr(h:BD s n){b:qR}{v:Int}(hv:b.GL=true→E9 v (n+2)):∀a,a.GL=true→E9 ((s.wr b v).mem a) (n+2):=λa ha=>by
 show E9 (fE s.mem b v a) _
 rw[fD];split
 ·next e=>exact hv (e▸ ha)
 ·exact h.mem ha
theorem BD.ck(h:BD s n)(f:Nat):(s.fr f).ck≤n+1:=Nat.le_succ_of_le (h.k f)
theorem BD.lay(h:BD s n){g:Nat}{x:Fr}(hx:x.ck≤n+1)(f:Nat):((s.lay g x).fr f).ck≤n+1:=by
 show(fE s.fr g x f).ck≤_
 rw[fD];split
 ·exact hx
 ·exact h.ck f
theorem BD.step(h:BD s n)(d:Int):BD (step C s i d).s (n+1):=by
 have R:=h.r i
 cases hp:s.pc i with
 | run =>
  unfold Am.step;rw[hp];simp only;unfold instr;simp only
  split
  ·exact h.of (p:=s.pc i) (λa ha=>h.mem ha) (nS _ _).symm (λx hx=>(R x hx).mono (by omega)) (h.lay (h.ck _))
  ·exact h.of (p:=s.pc i) (λa ha=>h.mem ha) (nS _ _).symm (λx hx=>(R x hx).mono (by omega)) (h.lay (h.ck _))
  ·exact h.of (p:=s.pc i) (λa ha=>h.mem ha) (nS _ _).symm (λx hx=>(R x hx).mono (by omega)) (h.lay (h.ck _))
  ·exact h.of (p:=s.pc i) (λa ha=>h.mem ha) (nS _ _).symm (λx hx=>(R x hx).mono (by omega)) (h.lay (h.ck _))
  ·exact h.of (p:=s.pc i) (λa ha=>h.mem ha) (nS _ _).symm (λx hx=>(R x hx).mono (by omega)) (h.lay (by split<;>exact h.ck _))
  ·exact h.of (p:=s.pc i) (λa ha=>h.mem ha) (nS _ _).symm (λx hx=>(R x hx).mono (by omega)) (h.lay (h.ck _))
  ·exact h.of (p:=s.pc i) (λa ha=>h.mem ha) (nS _ _).symm (λx hx=>(R x hx).mono (by omega)) (h.lay (h.ck _))
  ·split
   ·exact h.of (h.wr (λ_=>(h.m .next rfl).inc)) rfl (λx hx=>by cases hx) (h.lay (h.ck _))
   ·refine h.of (h.wr (λ_=>(h.m .next rfl).inc)) rfl (λx hx=>by cases hx) (λf => ?_)
    simp only[St.lay,St.wr,St.to,St.put,fD]
    have k1:=h.k ((s.hold i).getD 0)
    have k2:=h.ck f
    split
    ·exact Nat.zero_le _
    ·split
     ·exact Nat.succ_le_succ k1
     ·exact k2
  ·split<;>exact h.of (h.wr (λ_=>(h.m (.join _) rfl).dec)) rfl (λx hx=>by cases hx) (h.lay (h.ck _))
  ·split<;>exact h.of (h.wr (λe=>by cases e)) rfl (λx hx=>by cases hx) (h.lay (h.ck _))
 | halted=>unfold Am.step;rw[hp];exact h.of (p:=s.pc i) (λa ha=>h.mem ha) (nS _ _).symm (λx hx=>(R x hx).mono (by omega)) h.ck
 | full=>unfold Am.step;rw[hp];exact h.of (p:=s.pc i) (λa ha=>h.mem ha) (nS _ _).symm (λx hx=>(R x hx).mono (by omega)) h.ck
 | parked =>
  unfold Am.step;rw[hp];simp only
  split
  ·exact h.of (p:=s.pc i) (λa ha=>h.mem ha) (nS _ _).symm (λx hx=>(R x hx).mono (by omega)) h.ck
  ·exact h.of (λa ha=>h.mem ha) rfl (by intro x hx;split at hx<;>cases hx) h.ck
 | grow c b t cc =>
  unfold Am.step;rw[hp];simp only
  rw[hp]at R
  refine h.of (λa ha => ?_) rfl (λx hx=>(R x hx).mono (by omega)) h.ck
  cases a<;>first | exact h.mem ha | cases ha
 | start x=>unfold Am.step;rw[hp];exact h.of (h.wr (λ_=>(h.m (.mark _) rfl).inc)) rfl (λx hx=>by cases hx) h.ck
 | fork c=>unfold Am.step;rw[hp];exact h.of (h.wr (λ_=>(h.m (.join _) rfl).inc)) rfl (λx hx=>by cases hx) h.ck
 | pI=>unfold Am.step;rw[hp];exact h.of (h.wr (λ_=>⟨by omega,by omega⟩)) rfl (λx hx=>by cases hx) h.ck
 | out p c=>unfold Am.step;rw[hp];simp only;split<;>exact h.of (h.wr (λ_=>(h.m (.join _) rfl).dec)) rfl (λx hx=>by cases hx) h.ck
 | take p c=>unfold Am.step;rw[hp];exact h.of (h.wr (λ_=>⟨by omega,by omega⟩)) rfl (λx hx=>by cases hx) h.ck
 | done=>unfold Am.step;rw[hp];simp only[nk];split<;>exact h.of (h.wr (λe=>by cases e)) rfl (λx hx=>by cases hx) h.ck
 | tell j =>
  unfold Am.step;rw[hp];simp only[nk];split
  ·exact h.of (h.wr (λe=>by cases e)) rfl (λx hx=>by cases hx) h.ck
  ·split<;>exact h.of (λa ha=>h.mem ha) rfl (λx hx=>by cases hx) h.ck
 | ug j=>unfold Am.step;rw[hp];simp only[nk];split<;>exact h.of (h.wr (λ_=>(h.m .qa rfl).dec)) rfl (λx hx=>by cases hx) h.ck
 | zA c=>unfold Am.step;rw[hp];exact h.of (λa ha=>h.mem ha) rfl (λx hx=>by rw[List.mem_singleton.1 hx];exact h.mem (a:=.bot i) rfl) h.ck
 | vR c b =>
  unfold Am.step;rw[hp];rw[hp]at R;simp only
  exact h.of (λa ha=>h.mem ha) rfl (λx hx=>by
   simp only[fM,List.mem_cons,List.not_mem_nil,or_false]at hx
   rcases hx with rfl | rfl
   ·exact(R _ (by simp[fM])).mono (by omega)
   ·exact h.mem (a:=.top i) rfl) h.ck
 | pJ c b t =>
  unfold Am.step;rw[hp];rw[hp]at R;simp only
  exact h.of (λa ha=>h.mem ha) rfl (λx hx=>by
   simp only[fM,List.mem_cons,List.not_mem_nil,or_false]at hx
   rcases hx with rfl | rfl
   ·exact(R _ (by simp[fM])).mono (by omega)
   ·exact(R _ (by simp[fM])).mono (by omega)) h.ck
 | pK c b t =>
  unfold Am.step;rw[hp];rw[hp]at R;simp only
  split
  ·exact h.of (λa ha=>h.mem ha) rfl (λx hx=>by rw[List.mem_singleton.1 hx];exact(R _ (by simp[fM])).mono (by omega)) h.ck
  ·split
   ·exact h.of (λa ha=>h.mem ha) rfl (λx hx=>by cases hx) h.ck
   ·exact h.of (λa ha=>h.mem ha) rfl (λx hx=>by
    simp only[fM,List.mem_cons,List.not_mem_nil,or_false]at hx
    rcases hx with rfl | rfl
    ·exact(R _ (by simp[fM])).mono (by omega)
    ·exact(R _ (by simp[fM])).mono (by omega)) h.ck
 | nh c b t cc =>
  unfold Am.step;rw[hp];rw[hp]at R;simp only
  exact h.of (h.wr (λe=>by cases e)) rfl (λx hx=>by
   simp only[fM,List.mem_cons,List.not_mem_nil,or_false]at hx
   rcases hx with rfl | rfl | rfl
   ·exact(R _ (by simp[fM])).mono (by omega)
   ·exact(R _ (by simp[fM])).mono (by omega)
   ·exact(R _ (by simp[fM])).mono (by omega)) h.ck
 | kG c b t cc n =>
  unfold Am.step;rw[hp];rw[hp]at R;simp only
  exact h.of (λa ha=>h.mem ha) rfl (λx hx=>by
   simp only[fM,List.mem_cons,List.not_mem_nil,or_false]at hx
   rcases hx with rfl | rfl | rfl
   ·exact(R _ (by simp[fM])).mono (by omega)
   ·exact(R _ (by simp[fM])).mono (by omega)
   ·exact(R _ (by simp[fM])).mono (by omega)) h.ck
 | kO c b t cc n x =>
  unfold Am.step;rw[hp];rw[hp]at R;simp only
  refine h.of (h.wr (λe=>by cases e)) rfl (λy hy => ?_) h.ck
  split at hy
  ·simp only[fM,List.mem_cons,List.not_mem_nil,or_false]at hy
   rcases hy with rfl | rfl | rfl
   ·exact(R _ (by simp[fM])).mono (by omega)
   ·exact(R _ (by simp[fM])).mono (by omega)
   ·exact(R n (by simp[fM])).inc
  ·simp only[fM,List.mem_cons,List.not_mem_nil,or_false]at hy
   rcases hy with rfl | rfl
   ·exact(R _ (by simp[fM])).mono (by omega)
   ·exact(R _ (by simp[fM])).mono (by omega)
 | ni c b t cc =>
  unfold Am.step;rw[hp];rw[hp]at R;simp only
  exact h.of (h.wr (λe=>by cases e)) rfl (λx hx=>by rw[List.mem_singleton.1 hx];exact(R _ (by simp[fM])).mono (by omega)) h.ck
 | kH c b cc =>
  unfold Am.step;rw[hp];rw[hp]at R;simp only
  exact h.of (h.wr (λe=>by cases e)) rfl (λx hx=>by rw[List.mem_singleton.1 hx];exact(R _ (by simp[fM])).mono (by omega)) h.ck
 | oC c b =>
  unfold Am.step;rw[hp];rw[hp]at R;simp only
  exact h.of (h.wr (λ_=>(R b (by simp[fM])).inc)) rfl (λx hx=>by cases hx) h.ck
 | DA =>
  unfold Am.step;rw[hp];rw[hp]at R;simp only
  refine h.of (λa ha=>h.mem ha) rfl (λy hy => ?_) h.ck
  split at hy<;>cases hy
 | qG j =>
  unfold Am.step;rw[hp];rw[hp]at R;simp only
  split
  ·exact h.of (h.wr (λe=>by cases e)) rfl (λx hx=>by cases hx) h.ck
  ·refine h.of (λa ha=>h.mem ha) rfl (λy hy => ?_) h.ck
   split at hy<;>cases hy
 | s5 j =>
  unfold Am.step;rw[hp];rw[hp]at R;simp only
  exact h.of (h.wr (λ_=>(h.m .qa rfl).dec)) rfl (λx hx=>by cases hx) h.ck
 | CR =>
  unfold Am.step;rw[hp];rw[hp]at R;simp only
  exact h.of (λa ha=>h.mem ha) rfl (λx hx=>by rw[List.mem_singleton.1 hx];exact(h.m (.bot i) rfl).dec) h.ck
 | tH b =>
  unfold Am.step;rw[hp];rw[hp]at R;simp only
  exact h.of (λa ha=>h.mem ha) rfl (λx hx=>by rw[List.mem_singleton.1 hx];exact(R _ (by simp[fM])).mono (by omega)) h.ck
 | og b =>
  unfold Am.step;rw[hp];rw[hp]at R;simp only
  exact h.of (h.wr (λ_=>(R b (by simp[fM])).mono (by omega))) rfl (λx hx=>by rw[List.mem_singleton.1 hx];exact(R _ (by simp[fM])).mono (by omega)) h.ck
 | AB b =>
  unfold Am.step;rw[hp];rw[hp]at R;simp only
  split
  ·exact h.of (λa ha=>h.mem ha) rfl (λx hx=>by
   simp only[fM,List.mem_cons,List.not_mem_nil,or_false]at hx
   rcases hx with rfl | rfl
   ·exact(R _ (by simp[fM])).mono (by omega)
   ·exact h.mem (a:=.top i) rfl) h.ck
  ·split
   ·exact h.of (λa ha=>h.mem ha) rfl (λx hx=>by
    simp only[fM,List.mem_cons,List.not_mem_nil,or_false]at hx
    rcases hx with rfl | rfl
    ·exact(R _ (by simp[fM])).mono (by omega)
    ·exact h.mem (a:=.top i) rfl) h.ck
   ·exact h.of (λa ha=>h.mem ha) rfl (λx hx=>by rw[List.mem_singleton.1 hx];exact h.mem (a:=.top i) rfl) h.ck
 | nQ t =>
  unfold Am.step;rw[hp];rw[hp]at R;simp only
  refine h.of (h.wr (λ_=>(R t (by simp[fM])).mono (by omega))) rfl (λy hy => ?_) h.ck
  split at hy<;>cases hy
 | sA b t =>
  unfold Am.step;rw[hp];rw[hp]at R;simp only
  exact h.of (λa ha=>h.mem ha) rfl (λx hx=>by
   simp only[fM,List.mem_cons,List.not_mem_nil,or_false]at hx
   rcases hx with rfl | rfl
   ·exact(R _ (by simp[fM])).mono (by omega)
   ·exact(R _ (by simp[fM])).mono (by omega)) h.ck
 | oR b t cc =>
  unfold Am.step;rw[hp];rw[hp]at R;simp only
  split
  ·exact h.of (λa ha=>h.mem ha) rfl (λx hx=>by cases hx) h.ck
  ·exact h.of (λa ha=>h.mem ha) rfl (λx hx=>by
   simp only[fM,List.mem_cons,List.not_mem_nil,or_false]at hx
   rcases hx with rfl | rfl
   ·exact(R _ (by simp[fM])).mono (by omega)
   ·exact(R _ (by simp[fM])).mono (by omega)) h.ck
 | rC b t x =>
  unfold Am.step;rw[hp];rw[hp]at R;simp only
  split
  ·exact h.of (h.wr (λ_=>(R t (by simp[fM])).inc)) rfl (λx hx=>by rw[List.mem_singleton.1 hx];exact(R _ (by simp[fM])).mono (by omega)) h.ck
  ·exact h.of (λa ha=>h.mem ha) rfl (λx hx=>by rw[List.mem_singleton.1 hx];exact(R _ (by simp[fM])).mono (by omega)) h.ck
 | pR t x wG =>
  unfold Am.step;rw[hp];rw[hp]at R;simp only
  split
  ·exact h.of (h.wr (λ_=>(R t (by simp[fM])).inc)) rfl (λx hx=>by cases hx) h.ck
  ·refine h.of (h.wr (λ_=>(R t (by simp[fM])).inc)) rfl (λy hy => ?_) h.ck
   split at hy<;>cases hy
 | oa =>
  unfold Am.step;rw[hp];rw[hp]at R;simp only
  exact h.of (λa ha=>h.mem ha) rfl (λx hx=>by rw[List.mem_singleton.1 hx];exact h.mem (a:=.top _) rfl) h.ck
 | sB v t =>
  unfold Am.step;rw[hp];rw[hp]at R;simp only
  split
  ·exact h.of (λa ha=>h.mem ha) rfl (λx hx=>by cases hx) h.ck
  ·exact h.of (λa ha=>h.mem ha) rfl (λx hx=>by rw[List.mem_singleton.1 hx];exact(R _ (by simp[fM])).mono (by omega)) h.ck
 | oh v t =>
  unfold Am.step;rw[hp];rw[hp]at R;simp only
  exact h.of (λa ha=>h.mem ha) rfl (λx hx=>by rw[List.mem_singleton.1 hx];exact(R _ (by simp[fM])).mono (by omega)) h.ck
 | nR v t g =>
  unfold Am.step;rw[hp];rw[hp]at R;simp only
  exact h.of (λa ha=>h.mem ha) rfl (λx hx=>by rw[List.mem_singleton.1 hx];exact(R _ (by simp[fM])).mono (by omega)) h.ck
 | me v t g cc =>
  unfold Am.step;rw[hp];rw[hp]at R;simp only
  exact h.of (λa ha=>h.mem ha) rfl (λx hx=>by rw[List.mem_singleton.1 hx];exact(R _ (by simp[fM])).mono (by omega)) h.ck
 | nj v t x =>
  unfold Am.step;rw[hp];rw[hp]at R;simp only
  split
  ·exact h.of (h.wr (λ_=>(R t (by simp[fM])).inc)) rfl (λx hx=>by cases hx) h.ck
  ·exact h.of (λa ha=>h.mem ha) rfl (λx hx=>by cases hx) h.ck
 | AD =>
  unfold Am.step;rw[hp];rw[hp]at R;simp only
  split
  ·exact h.of (λa ha=>h.mem ha) rfl (λx hx=>by cases hx) h.ck
  ·refine h.of (λa ha=>h.mem ha) rfl (λy hy => ?_) h.ck
   split at hy<;>cases hy
 | flag =>
  unfold Am.step;rw[hp];rw[hp]at R;simp only
  exact h.of (h.wr (λe=>by cases e)) rfl (λx hx=>by cases hx) h.ck
 | sleep =>
  unfold Am.step;rw[hp];rw[hp]at R;simp only
  exact h.of (h.wr (λ_=>(h.m .qa rfl).inc)) rfl (λx hx=>by cases hx) h.ck
 | so =>
  unfold Am.step;rw[hp];rw[hp]at R;simp only[looking]
  split
  ·exact h.of (λa ha=>h.mem ha) rfl (λx hx=>by cases hx) h.ck
  ·split<;>exact h.of (λa ha=>h.mem ha) rfl (λx hx=>by cases hx) h.ck
 | AU j =>
  unfold Am.step;rw[hp];rw[hp]at R;simp only
  exact h.of (λa ha=>h.mem ha) rfl (λx hx=>by rw[List.mem_singleton.1 hx];exact h.mem (a:=.top j) rfl) h.ck
 | zB j t =>
  unfold Am.step;rw[hp];rw[hp]at R;simp only[looking]
  split
  ·exact h.of (λa ha=>h.mem ha) rfl (λx hx=>by cases hx) h.ck
  ·split<;>exact h.of (λa ha=>h.mem ha) rfl (λx hx=>by cases hx) h.ck
 | back b =>
  unfold Am.step;rw[hp];rw[hp]at R;simp only[zC]
  split
  ·exact h.of (h.wr (λe=>by cases e)) rfl (λx hx=>by cases hx) h.ck
  ·split
   ·exact h.of (λa ha=>h.mem ha) rfl (λx hx=>by cases hx) h.ck
   ·refine h.of (λa ha=>h.mem ha) rfl (λy hy => ?_) h.ck
    split at hy<;>cases hy
 | s6 b =>
  unfold Am.step;rw[hp];rw[hp]at R;simp only[zC]
  split
  ·exact h.of (h.wr (λ_=>(h.m .qa rfl).dec)) rfl (λx hx=>by cases hx) h.ck
  ·refine h.of (h.wr (λ_=>(h.m .qa rfl).dec)) rfl (λy hy => ?_) h.ck
   split at hy<;>cases hy
end
def AJ(C:k8)(s:St):qR→Prop
 | .result | .next | .qa | .AA=>True
 | .join f | .mark f=>f<C.F
 | .slot f k=>f<C.F∧k<8
 | .flag i | .top i | .bot i | .buf i=>i<C.N
 | .cap i g=>i<C.N∧g≤gen s i
 | .el i g n=>i<C.N∧g≤gen s i∧n<qY C g
def place(C:k8)(s:St):qR→Int
 | .result=>0
 | .next=>1
 | .join f=>2+10*f
 | .mark f=>3+10*f
 | .slot f k=>4+10*f+k
 | .qa=>2+10*C.F
 | .AA=>3+10*C.F
 | .flag i=>4+10*C.F+i
 | .top i=>sD C i
 | .bot i=>sD C i+1
 | .buf i=>sD C i+2
 | .cap i g=>s.base i g
 | .el i g n=>s.base i g+1+n
inductive Iz | fix (x:Int) | dq (i r:Nat) | gr (i g r:Nat)
def GM(C:k8):qR→Iz
 | .result=>.fix 0
 | .next=>.fix 1
 | .join f=>.fix (2+10*f)
 | .mark f=>.fix (3+10*f)
 | .slot f k=>.fix (4+10*f+k)
 | .qa=>.fix (2+10*C.F)
 | .AA=>.fix (3+10*C.F)
 | .flag i=>.fix (4+10*C.F+i)
 | .top i=>.dq i 0
 | .bot i=>.dq i 1
 | .buf i=>.dq i 2
 | .cap i g=>if g=0 then .dq i 3 else .gr i g 0
 | .el i g n=>if g=0 then .dq i (4+n)else .gr i g (1+n)
section
variable {C:k8}{s:St}
theorem Fa{i:Nat}(h:i<C.N):sD C i+(4+C.first)≤S0 C:=by
 unfold sD S0
 have:(i+1)*(4+C.first)≤C.N*(4+C.first):=Nat.mul_le_mul_right _ h
 rw[Nat.succ_mul]at this;omega
theorem JT(i:Nat):4+10*C.F+C.N≤sD C i:=by unfold sD;omega
theorem D5{i j:Nat}(h:i<j):sD C i+(4+C.first)≤sD C j:=by
 unfold sD
 have:(i+1)*(4+C.first)≤j*(4+C.first):=Nat.mul_le_mul_right _ h
 rw[Nat.succ_mul]at this;omega
def Xd(C:k8)(s:St)(z:Iz)(x:Int):Prop:=
 match z with
 | .fix y=>x=y∧0≤y∧y<4+10*C.F+C.N
 | .dq i r=>i<C.N∧r<4+C.first∧x=sD C i+r
 | .gr i g r=>i<C.N∧1≤g∧g≤gen s i∧r<1+qY C g∧x=s.base i g+r
theorem Fb(h:SZ C s){a:qR}(ha:AJ C s a):Xd C s (GM C a) (place C s a):=by
 cases a with
 | result=>exact⟨rfl,by omega,by omega⟩
 | next=>exact⟨rfl,by omega,by omega⟩
 | qa=>exact⟨rfl,by omega,by omega⟩
 | AA=>exact⟨rfl,by omega,by omega⟩
 | join f=>have:f<C.F:=ha;exact⟨rfl,by omega,by omega⟩
 | mark f=>have:f<C.F:=ha;exact⟨rfl,by omega,by omega⟩
 | slot f k=>have:f<C.F∧k<8:=ha;exact⟨rfl,by omega,by omega⟩
 | flag i=>have:i<C.N:=ha;exact⟨rfl,by omega,by omega⟩
 | top i=>exact⟨ha,by omega,by simp[place]⟩
 | bot i=>exact⟨ha,by omega,by simp[place]⟩
 | buf i=>exact⟨ha,by omega,by simp[place]⟩
 | cap i g =>
  by_cases e:g=0
  ·subst e;simp only[GM,if_true];exact⟨ha.1,by omega,by simp only[place];rw[h.Nn i ha.1];omega⟩
  ·simp only[GM,fh e];exact⟨ha.1,by omega,ha.2,by omega,by simp[place]⟩
 | el i g n =>
  by_cases e:g=0
  ·subst e;simp only[GM,if_true];exact⟨ha.1,by have:=ha.2.2;simp only[qY]at this;omega,by simp only[place];rw[h.Nn i ha.1];omega⟩
  ·simp only[GM,fh e];exact⟨ha.1,by omega,ha.2.1,by have:=ha.2.2;omega,by simp only[place];omega⟩
theorem Sn(h:SZ C s){z:Iz}{x:Int}(hz:Xd C s z x):0≤x∧x<s.size:=by
 have hs:(S0 C:Int)≤s.size:=by rw[h.size];omega
 have h0:4+10*C.F+C.N≤S0 C:=by unfold S0;omega
 cases z with
 | fix y=>obtain⟨rfl,a,b⟩:=hz;omega
 | dq i r=>obtain⟨a,b,rfl⟩:=hz;have:=Fa a;omega
 | gr i g r=>obtain⟨a,b,c,d,rfl⟩:=hz;have:=h.bs i a g b c;omega
theorem Px(h:SZ C s){z z':Iz}{x:Int}(hz:Xd C s z x)(Kg:Xd C s z' x):z=z':=by
 have h0:4+10*C.F+C.N≤S0 C:=by unfold S0;omega
 cases z with
 | fix y =>
  obtain⟨rfl,a,b⟩:=hz
  cases z' with
  | fix y'=>obtain⟨rfl,_,_⟩:=Kg;rfl
  | dq i r=>obtain⟨a',b',c'⟩:=Kg;have:=JT (C:=C) i;omega
  | gr i g r=>obtain⟨a',b',c',d',e'⟩:=Kg;have:=h.bs i a' g b' c';omega
 | dq i r =>
  obtain⟨a,b,c⟩:=hz
  have hi:=Fa a
  cases z' with
  | fix y'=>obtain⟨rfl,_,_⟩:=Kg;have:=JT (C:=C) i;omega
  | dq i' r' =>
   obtain⟨a',b',c'⟩:=Kg
   rcases Nat.lt_trichotomy i i' with e | e | e
   ·have:=D5 (C:=C) e;omega
   ·subst e;have:r=r':=by omega
    rw[this]
   ·have:=D5 (C:=C) e;omega
  | gr i' g r'=>obtain⟨a',b',c',d',e'⟩:=Kg;have:=h.bs i' a' g b' c';omega
 | gr i g r =>
  obtain⟨a,b,c,d,e⟩:=hz
  have hb:=h.bs i a g b c
  cases z' with
  | fix y'=>obtain⟨rfl,_,_⟩:=Kg;omega
  | dq i' r'=>obtain⟨a',b',c'⟩:=Kg;have:=Fa a';omega
  | gr i' g' r' =>
   obtain⟨a',b',c',d',e'⟩:=Kg
   by_cases hh:i≠i'∨g≠g'
   ·have:=h.dj i i' g g' a a' b b' c c' hh;omega
   ·have e1:i=i':=Decidable.byContradiction λe=>hh (.inl e)
    have e2:g=g':=Decidable.byContradiction λe=>hh (.inr e)
    subst e1;subst e2;have:r=r':=by omega
    rw[this]
theorem Np(h:SZ C s){a b:qR}(ha:AJ C s a)(hb:AJ C s b)(e:GM C a=GM C b):a=b:=by
 cases a<;>cases b<;>simp only[GM]at e<;>simp only[AJ]at ha hb<;>(try rfl)<;>(repeat' split at e)<;>simp only[Iz.fix.injEq,Iz.dq.injEq,Iz.gr.injEq,reduceCtorEq]at e<;>first
  | omega
  | (exfalso;revert e ha hb;simp;done)
  | (simp only[qR.join.injEq,qR.mark.injEq,qR.slot.injEq,qR.flag.injEq,qR.top.injEq,qR.bot.injEq,qR.buf.injEq,qR.cap.injEq,qR.el.injEq];first | omega | (refine⟨?_,?_⟩<;>omega) | (refine⟨?_,?_,?_⟩<;>omega))
theorem Lc(h:SZ C s){a b:qR}(ha:AJ C s a)(hb:AJ C s b)(e:place C s a=place C s b):a=b:=
 Np h ha hb (Px h (Fb h ha) (e▸ Fb h hb))
theorem zF(h:SZ C s){a:qR}(ha:AJ C s a):0≤place C s a∧place C s a<s.size:=Sn h (Fb h ha)
structure CL(C:k8)(s:St)(c:List Int):Prop where
 len:(c.length:Int)=s.size
 get:∀a,AJ C s a→c.getD (place C s a).toNat 0=s.mem a
theorem CL.AK{c:List Int}(h:CL C s c)(hz:SZ C s){a:qR}(ha:AJ C s a):0≤place C s a∧place C s a<c.length∧(place C s a).toNat<c.length:=by
 have:=zF hz ha;have:=h.len;omega
theorem CL.of{s':St}{c:List Int}(h:CL C s c)(h1:s'.mem=s.mem)(h2:s'.size=s.size)(h3:s'.base=s.base)(h4:gen s'=gen s):CL C s' c:=by
 have e1:∀a,AJ C s' a=AJ C s a:=λa=>by cases a<;>simp only[AJ,h4]
 have e2:∀a,place C s' a=place C s a:=λa=>by cases a<;>simp only[place,h3]
 exact⟨by rw[h2];exact h.len,λa ha=>by rw[e2,h1];exact h.get a (e1 a▸ ha)⟩
theorem CL.set{s':St}{c:List Int}{b:qR}{v:Int}(h:CL C s c)(hz:SZ C s)(hb:AJ C s b)(h1:s'.mem=fE s.mem b v)(h2:s'.size=s.size)(h3:s'.base=s.base)(h4:gen s'=gen s):CL C s' (c.set (place C s b).toNat v):=by
 have e1:∀a,AJ C s' a=AJ C s a:=λa=>by cases a<;>simp only[AJ,h4]
 have e2:∀a,place C s' a=place C s a:=λa=>by cases a<;>simp only[place,h3]
 refine⟨by rw[h2,List.length_set];exact h.len,λa ha => ?_⟩
 rw[e1]at ha
 rw[e2,h1,fD,List.getD_eq_getElem?_getD,List.getElem?_set]
 have la:=h.AK hz ha
 have lb:=h.AK hz hb
 by_cases e:a=b
 ·subst e;rw[fQ rfl,fQ la.2.2,fQ rfl];rfl
 ·have hne:(place C s b).toNat≠(place C s a).toNat:=λe'=>e (Lc hz ha hb (by omega))
  rw[fh hne,fh e,←List.getD_eq_getElem?_getD];exact h.get a ha
theorem CL.grow{s':St}{c:List Int}{i:Nat}(h:CL C s c)(hz:SZ C s)(hi:i<C.N)(hg:gen s i=s.cur i)
 (h1:∀a,s'.mem a=match a with | .cap i' g'=>if i'=i∧g'=s.cur i+1 then 0 else s.mem a | .el i' g' _=>if i'=i∧g'=s.cur i+1 then 0 else s.mem a | _=>s.mem a)
 (h2:s'.size=s.size+1+qY C (s.cur i+1)) (h3:s'.base=fE s.base i (fE (s.base i) (s.cur i+1) s.size)) (h4:gen s'=fE (gen s) i (s.cur i+1)):CL C s' (c++List.replicate (1+qY C (s.cur i+1)) 0):=by
 have hl:=h.len
 have hnew:∀k,c.length≤k→(c++List.replicate (1+qY C (s.cur i+1)) (0:Int)).getD k 0=0:=λk hk=>by
  rw[List.getD_eq_getElem?_getD,List.getElem?_append_right hk,List.getElem?_replicate];split<;>rfl
 have hold:∀k,k<c.length→(c++List.replicate (1+qY C (s.cur i+1)) (0:Int)).getD k 0=c.getD k 0:=λk hk=>by
  rw[List.getD_eq_getElem?_getD,List.getElem?_append_left hk,←List.getD_eq_getElem?_getD]
 refine⟨by rw[h2,List.length_append,List.length_replicate];omega,λa ha => ?_⟩
 have key:∀a,AJ C s a→place C s' a=place C s a→s'.mem a=s.mem a→(c++List.replicate (1+qY C (s.cur i+1)) (0:Int)).getD (place C s' a).toNat 0=s'.mem a:=λa hv hp hm=>by
  rw[hp,hm,hold _ (h.AK hz hv).2.2];exact h.get a hv
 cases a with
 | cap j g =>
  have ZS:=ha.1
  have So:=ha.2
  rw[h4,fD]at So
  by_cases e:j=i∧g=s.cur i+1
  ·obtain⟨rfl,rfl⟩:=e
   rw[h1];simp only[and_self,if_true,place];rw[h3,bQ,bQ]
   exact hnew _ (by omega)
  ·refine key _ ⟨ZS,?_⟩ ?_ (by rw[h1];exact fh e)
   ·split at So
    ·next e'=>subst e';rw[hg];have:g≠s.cur j+1:=λx=>e ⟨rfl,x⟩;omega
    ·exact So
   ·simp only[place];rw[h3,fD];split
    ·next e'=>subst e';rw[bA (λx=>e ⟨rfl,x⟩)]
    ·rfl
 | el j g n =>
  have ZS:=ha.1
  have So:=ha.2.1
  rw[h4,fD]at So
  by_cases e:j=i∧g=s.cur i+1
  ·obtain⟨rfl,rfl⟩:=e
   rw[h1];simp only[and_self,if_true,place];rw[h3,bQ,bQ]
   exact hnew _ (by omega)
  ·refine key _ ⟨ZS,?_,ha.2.2⟩ ?_ (by rw[h1];exact fh e)
   ·split at So
    ·next e'=>subst e';rw[hg];have:g≠s.cur j+1:=λx=>e ⟨rfl,x⟩;omega
    ·exact So
   ·simp only[place];rw[h3,fD];split
    ·next e'=>subst e';rw[bA (λx=>e ⟨rfl,x⟩)]
    ·rfl
 | _=>exact key _ ha rfl (by rw[h1])
end
end Am
end
section
namespace Mo
open Go SL GX
def sN(i:bW):Am.Tw:=
 if i.aa6=0 then .const i.A.toNat i.K else if i.aa6=1 then .move i.A.toNat i.B.toNat else if i.aa6=2 then .arith i.K i.A.toNat i.B.toNat i.C.toNat
 else if i.aa6=3 then .jump i.A.toNat else if i.aa6=4 then .branch i.A.toNat i.B.toNat else if i.aa6=5 then .spawn i.A.toNat i.B.toNat i.C.toNat
 else if i.aa6=6 then .sync else if i.aa6=7 then .load i.A.toNat i.B.toNat else if i.aa6=8 then .nr i.A.toNat else .ret i.A.toNat
def VB(op x y:Int):Int:=match p7 op x y with
 | some r=>r.1
 | none=>0
theorem Nq{op:Int}(h0:0≤op)(h1:op<16)(x y:Int):p7 op x y=some (VB op x y,0):=by
 have d :∃a b,ru x y=some (a,b):=by
  unfold ru
  by_cases h:y=0
  ·rw[fQ h];exact⟨_,_,rfl⟩
  ·rw[fh h];split
   ·exact⟨_,_,rfl⟩
   ·exact⟨_,_,rfl⟩
 obtain⟨a,b,d⟩:=d
 have e :∃v,wY op x y=some v:=by
  have it:∀{c:Prop} [Decidable c] {x y:Option Int},(∃v,x=some v)→(∃v,y=some v)→∃v,(if c then x else y)=some v:=λhx hy=>by
   split
   ·exact hx
   ·exact hy
  have tr:∀b:Bool,∃v,ry b=some v:=λb=>by cases b<;>exact⟨_,rfl⟩
  have ob:∀{x:Option Int},(∃v,x=some v)→∃v,eL x (λr=>some r)=some v:=λ⟨v,h⟩=>⟨v,by rw[h];rfl⟩
  unfold wY
  rw[d]
  exact it ⟨_,rfl⟩ (it ⟨_,rfl⟩ (it ⟨_,rfl⟩ (it ⟨_,rfl⟩ (it ⟨_,rfl⟩ (it ⟨_,rfl⟩ (it ⟨_,rfl⟩ (it ⟨_,rfl⟩ (it ⟨_,rfl⟩ (it ⟨_,rfl⟩ (it ⟨_,rfl⟩ (it ⟨_,rfl⟩ (it (ob (tr _)) (it (ob (tr _)) (it (ob (tr _)) (ob (tr _))))))))))))))))
 obtain⟨v,e⟩:=e
 have:p7 op x y=some (v,0):=by
  unfold p7 zo
  rw[fQ h0,aE,fQ (decide_eq_true h1),e,aE]
 unfold VB;rw[this]
def cfg(p:aO)(N F f m:Nat):Am.k8:=
 { N:=N,F:=F,first:=f,most:=m,QM:=p.aq.length,len:=λg=>(ag p.aq g).Code.length,params:=λg=>(ag p.aq g).aU.toNat,cg:=λg=>(ag p.aq g).cO.toNat,
   code:=λg a=>sN (ag (ag p.aq g).Code a),ap:=VB,pd:=λx k=>wi (wi (wi (x*1000003)+(k:Int))+1)}
theorem yB{x n:Int}(h:rH x n=true):0≤x∧x<n:=sW.1 h
theorem Sp{p:aO}{g:aG}(h:Code p g)(hs:Fq g){a:Nat}(ha:a<g.Code.length)(h3:¬(ag g.Code a).aa6=3)(h9:¬(ag g.Code a).aa6=9):a+1<g.Code.length:=by
 have en:=h.fin
 unfold Ic at en
 simp only[Bool.or_eq_true,decide_eq_true_eq]at en
 by_cases e:a=g.Code.length-1
 ·rw[←e]at en;rcases en with en | en
  ·exact absurd en h3
  ·exact absurd en h9
 ·omega
theorem Sq{p:aO}{N F f m:Nat}(hv:Valid p)(N0:1≤N)(hn:N≤64)(ZT:1≤F)(hf:F≤4096)(h1:1≤f)(ZU:f≤m)(hm:m≤4096):(cfg p N F f m).OK where
 n1:=N0
 n64:=hn
 f1:=ZT
 f4:=hf
 c1:=h1
 cm:=ZU
 m4:=hm
 fn0:=hv.n1
 Sm:=λg hg=>by have:=(hv.Ho g hg).c1;exact this
 E8:=λg hg=>by
  have a1:=(hv.Ho g hg).rp
  have a2:=(hv.Ho g hg).r16
  have a3:=(hv.Ho g hg).p0
  exact⟨by show(ag p.aq g).aU.toNat≤(ag p.aq g).cO.toNat;omega,by show(ag p.aq g).cO.toNat≤16;omega⟩
 ins:=λg hg a ha=>by
  change g<p.aq.length at hg
  change a<(ag p.aq g).Code.length at ha
  have hs:=hv.Ho g hg
  have hc:=hv.code g hg
  have hi:=(hc.ins a ha).1
  have Od:=(hc.ins a ha).2
  have hl:=Sp hc hs ha
  have s8:=hs.s8
  unfold n8 at hi
  unfold ud at Od
  unfold Am.Nm
  show match sN (ag (ag p.aq g).Code a)with
   | .const x _=>x<(ag p.aq g).cO.toNat∧a+1<(ag p.aq g).Code.length
   | .nr x=>x<(ag p.aq g).cO.toNat∧a+1<(ag p.aq g).Code.length
   | .move x y=>x<(ag p.aq g).cO.toNat∧y<(ag p.aq g).cO.toNat∧a+1<(ag p.aq g).Code.length
   | .arith op x y z=>x<(ag p.aq g).cO.toNat∧y<(ag p.aq g).cO.toNat∧z<(ag p.aq g).cO.toNat∧a+1<(ag p.aq g).Code.length
   | .jump t=>t<(ag p.aq g).Code.length
   | .branch x t=>x<(ag p.aq g).cO.toNat∧t<(ag p.aq g).Code.length∧a+1<(ag p.aq g).Code.length
   | .spawn s f c=>s<8∧f<p.aq.length∧((ag p.aq f).aU.toNat=0∨c+(ag p.aq f).aU.toNat≤(ag p.aq g).cO.toNat)∧a+1<(ag p.aq g).Code.length
   | .sync=>a+1<(ag p.aq g).Code.length
   | .load x s=>x<(ag p.aq g).cO.toNat∧s<8∧a+1<(ag p.aq g).Code.length
   | .ret x=>x<(ag p.aq g).cO.toNat
  have hk:=(Code.snd hs hc).kind (a:Int) (by omega) (by omega)
  rw[Int.toNat_natCast]at hk
  generalize ag (ag p.aq g).Code a=c at *
  have hk:c.aa6=0∨c.aa6=1∨c.aa6=2∨c.aa6=3∨c.aa6=4∨c.aa6=5∨c.aa6=6∨c.aa6=7∨c.aa6=8∨c.aa6=9:=by omega
  unfold sN
  rcases hk with k | k | k | k | k | k | k | k | k | k<;>simp[k,rH]at hi Od hl⊢
  ·omega
  ·omega
  ·omega
  ·omega
  ·omega
  ·have:=(hv.Ho c.B.toNat (by omega)).p0;omega
  ·omega
  ·omega
  ·omega
  ·omega
def nt(M:ah)(c:List Int)(k a x y:Int)(ok:Bool):ah:={M with cell:=c,log:=if M.watched=true then M.log++[⟨M.oT,k,a,x,y,ok⟩]else M.log}
structure AR(C:Am.k8)(s:Am.St)(M:ah)(sz n:Nat):Prop where
 size:M.jI=sz
 s1:sz≤1048576
 fit:s.size≤sz
 mark:M.dZ=(M.cell.length:Int)
 cl:Am.CL C s M.cell
 lg:M.log.length≤n
section
variable {C:Am.k8}{s:Am.St}{M:ah}{sz n:Nat}
theorem u3(h:M.log.length≤2000000000)(c:List Int)(k a x y:Int)(ok:Bool):fl {M with cell:=c} k a x y ok=some (nt M c k a x y ok):=by
 unfold fl nt
 by_cases e:M.watched=true
 ·rw[fQ e,fQ e,fQ (by show(M.log.length+1)*48≤_;omega)]
 ·rw[fh e,fh e]
theorem AR.Py(h:AR C s M sz n)(hz:Am.SZ C s){a:Am.qR}(ha:Am.AJ C s a):bT (Am.place C s a) M.cell.length∧Am.place C s a<1048576∧ag M.cell (Am.place C s a).toNat=s.mem a:=by
 have l:=h.cl.AK hz ha
 have p:=Am.zF hz ha
 have f:=h.fit
 have s1:=h.s1
 exact⟨⟨l.1,l.2.1⟩,by omega,h.cl.get a ha⟩
theorem AR.out(h:AR C s M sz n)(hz:Am.SZ C s){a:Am.qR}(ha:Am.AJ C s a):gi M (Am.place C s a)=some false:=by
 have l:=h.cl.AK hz ha
 unfold gi nN
 rw[h.mark,fQ (by omega),decide_eq_true (by omega),aE];rfl
theorem uA(h:AR C s M sz n)(hz:Am.SZ C s)(hn:n≤2000000000){a:Am.qR}(ha:Am.AJ C s a):fH M (Am.place C s a)=some (s.mem a,0,nt M M.cell 0 (Am.place C s a) (s.mem a) 0 true):=by
 obtain⟨i1,_,i3⟩:=h.Py hz ha
 have lg:=h.lg
 unfold fH
 rw[h.out hz ha,aE,fh (by decide),fQ i1,i3]
 have:=u3 (M:=M) (by omega) M.cell 0 (Am.place C s a) (s.mem a) 0 true
 rw[show fl M 0 (Am.place C s a) (s.mem a) 0 true=_ from this,aE]
theorem rL(h:AR C s M sz n)(hz:Am.SZ C s)(hn:n≤2000000000){a:Am.qR}(ha:Am.AJ C s a)(v:Int):di M (Am.place C s a) v=some (0,nt M (M.cell.set (Am.place C s a).toNat v) 1 (Am.place C s a) v 0 true):=by
 obtain⟨i1,_,i3⟩:=h.Py hz ha
 have lg:=h.lg
 unfold di
 rw[h.out hz ha,aE,fh (by decide),fQ i1,u3 (by omega),aE]
theorem D6(h:AR C s M sz n)(hz:Am.SZ C s)(hn:n≤2000000000){a:Am.qR}(ha:Am.AJ C s a){d v:Int}(hv:wi (s.mem a+d)=v):gN M (Am.place C s a) d=some (v,0,nt M (M.cell.set (Am.place C s a).toNat v) 3 (Am.place C s a) d v true):=by
 obtain⟨i1,_,i3⟩:=h.Py hz ha
 have lg:=h.lg
 have l:=h.cl.AK hz ha
 unfold gN
 rw[h.out hz ha,aE,fh (by decide),fQ i1,i3,hv,fQ (by rw[List.length_set];exact i1),u3 (by omega),aE]
 have hin:bT (Am.place C s a) (nt M (M.cell.set (Am.place C s a).toNat v) 3 (Am.place C s a) d v true).cell.length:=by
  show bT _ (M.cell.set _ v).length;rw[List.length_set];exact i1
 rw[fQ hin]
 have:ag (nt M (M.cell.set (Am.place C s a).toNat v) 3 (Am.place C s a) d v true).cell (Am.place C s a).toNat=v:=by
  show ag (M.cell.set _ v) _=v
  rw[oe (by omega),fQ rfl]
 rw[this]
theorem Nr(h:AR C s M sz n)(hz:Am.SZ C s)(hn:n≤2000000000){a:Am.qR}(ha:Am.AJ C s a)(o v:Int):lA M (Am.place C s a) o v=some (s.mem a==o,0,nt M (if s.mem a=o then M.cell.set (Am.place C s a).toNat v else M.cell) 2 (Am.place C s a) o v (s.mem a==o)):=by
 obtain⟨i1,_,i3⟩:=h.Py hz ha
 have lg:=h.lg
 unfold lA
 rw[h.out hz ha,aE,fh (by decide),fQ i1,i3]
 by_cases e:s.mem a=o
 ·rw[fQ e,fQ e,u3 (by omega),aE]
 ·rw[fh e,fh e]
  have:=u3 (M:=M) (by omega) M.cell 2 (Am.place C s a) o v (s.mem a==o)
  rw[show fl M 2 (Am.place C s a) o v (s.mem a==o)=_ from this,aE]
theorem VC(h:AR C s M sz n)(hn:n≤2000000000){k:Nat}(hk:1≤k)(hf:M.cell.length+k≤sz):eV M (k:Int)=some (s.size,0,{nt M (M.cell++List.replicate k 0) 4 s.size k 0 true with dZ:=s.size+k}):=by
 have lg:=h.lg
 have s1:=h.s1
 have hl:=h.cl.len
 unfold eV j8 mW
 rw[ia,fh (by omega),h.mark,h.size,eM (x:=(sz:Int)-(M.cell.length:Int)) (by omega),fh (by omega),aE,fQ rfl,ej,fQ ⟨by omega,by show(M.cell.length+(k:Int).toNat)*8≤_;omega⟩,Int.toNat_natCast]
 have:=u3 (M:={M with dZ:=wi (((M.cell.length:Nat):Int)+k)}) (by show M.log.length≤_;omega) (M.cell++List.replicate k 0) 4 (M.cell.length:Int) k 0 true
 have e:fl ({({M with dZ:=wi (((M.cell.length:Nat):Int)+k)}:ah)with cell:=M.cell++List.replicate k 0}) 4 ((M.cell.length:Nat):Int) (k:Int) 0 true=_:=this
 obtain⟨z1,z2,z3,z4,z5,z6⟩:=M
 simp only at e h hf hl lg s1⊢
 have hs:=h.size;have hm:=h.mark
 simp only at hs hm
 subst hs;subst hm
 rw[e,aE,eM (by omega),hl];rfl
theorem AR.same{s':Am.St}(h:AR C s M sz n)(h1:s'.mem=s.mem)(h2:s'.size=s.size)(h3:s'.base=s.base)(h4:Am.gen s'=Am.gen s)(k a x y:Int)(ok:Bool):AR C s' (nt M M.cell k a x y ok) sz (n+1):=
 ⟨h.size,h.s1,by rw[h2];exact h.fit,h.mark,h.cl.of h1 h2 h3 h4,by
  have:=h.lg
  show(if M.watched=true then M.log++[_]else M.log).length≤_
  split
  ·rw[List.length_append];simp;omega
  ·omega⟩
theorem AR.keep{s':Am.St}(h:AR C s M sz n)(h1:s'.mem=s.mem)(h2:s'.size=s.size)(h3:s'.base=s.base)(h4:Am.gen s'=Am.gen s):AR C s' M sz (n+1):=
 ⟨h.size,h.s1,by rw[h2];exact h.fit,h.mark,h.cl.of h1 h2 h3 h4,Nat.le_succ_of_le h.lg⟩
theorem AR.set{s':Am.St}{b:Am.qR}{v:Int}(h:AR C s M sz n)(hz:Am.SZ C s)(hb:Am.AJ C s b)(h1:s'.mem=Am.fE s.mem b v)(h2:s'.size=s.size)(h3:s'.base=s.base)(h4:Am.gen s'=Am.gen s)(k a x y:Int)(ok:Bool) :
 AR C s' (nt M (M.cell.set (Am.place C s b).toNat v) k a x y ok) sz (n+1):=
 ⟨h.size,h.s1,by rw[h2];exact h.fit,by show M.dZ=((M.cell.set _ _).length:Nat);rw[List.length_set];exact h.mark,h.cl.set hz hb h1 h2 h3 h4,by
  have:=h.lg
  show(if M.watched=true then M.log++[_]else M.log).length≤_
  split
  ·rw[List.length_append];simp;omega
  ·omega⟩
end
end Mo
end
section
namespace Mo
open Go SL GX
def DO(C:Am.k8)(v:Nat)(k st:Int)(o:aC):Prop:=o.kind=k∧o.ag=st∧o.lz=Am.sD C v∧o.lK=C.most
def TO(C:Am.k8)(k st:Int)(f:Nat)(o:aT):Prop:=o.dH=1∧o.dr=C.F∧o.fA=f∧o.aB=st∧o.kind=k
def LO(C:Am.k8)(i:Nat)(k st kk:Int)(o:bu):Prop:=o.bH=2+10*(C.F:Int)∧o.bR=C.N∧o.fB=i∧o.cP=k∧o.aA=st∧o.cK=kk
def GN(C:Am.k8)(v:Nat):aI:=⟨Am.sD C v,C.most⟩
def RO(C:Am.k8)(i:Nat)(st kk:Int)(a:bB):Prop:=a.aH=12∧LO C i 1 st kk a.bS∧∀v,v<C.N→ag a.bS.aP v=GN C v
def ring(C:Am.k8)(i j:Nat)(k:Nat):Prop:=1≤k∧k<C.N∧(i+k)%C.N=j
def ph(C:Am.k8)(i:Nat)(p:Am.Pc)(tr:Nat)(cj:Nat)(bs:Nat→Nat→Int)(a:bB):Prop:=
 match p with
 | .halted=>a.aH=13
 | .full=>a.aH=14
 | .start x=>a.aH=0∧a.from_=x
 | .run=>a.aH=1
 | .fork c=>a.aH=2∧a.bM=c
 | .pI=>a.aH=5∧TO C 3 2 a.aj.toNat a.cB
 | .out p c=>a.aH=6∧a.done=c∧TO C 2 2 p a.cB
 | .take p c=>a.aH=6∧a.done=c∧TO C 2 3 p a.cB
 | .done=>a.aH=7∧LO C i 4 10 1 a.bS
 | .tell j=>a.aH=7∧∃k:Nat,LO C i 4 9 k a.bS∧ring C i j k
 | .ug j=>a.aH=7∧∃k:Nat,LO C i 4 7 k a.bS∧ring C i j k
 | .zA c=>a.aH=3∧a.bM=c∧DO C i 1 1 a.aX∧a.aX.v=c
 | .vR c b=>a.aH=3∧a.bM=c∧DO C i 1 2 a.aX∧a.aX.v=c∧a.aX.b=b
 | .pJ c b t=>a.aH=3∧a.bM=c∧DO C i 1 3 a.aX∧a.aX.v=c∧a.aX.b=b∧a.aX.t=t
 | .pK c b t=>a.aH=3∧a.bM=c∧DO C i 1 4 a.aX∧a.aX.v=c∧a.aX.b=b∧a.aX.t=t∧a.aX.a=bs i cj
 | .grow c b t cc=>a.aH=3∧a.bM=c∧DO C i 1 5 a.aX∧a.aX.v=c∧a.aX.b=b∧a.aX.t=t∧a.aX.a=bs i cj∧a.aX.c=cc∧a.aX.c2=Am.ij C cc
 | .nh c b t cc=>a.aH=3∧a.bM=c∧DO C i 1 6 a.aX∧a.aX.v=c∧a.aX.b=b∧a.aX.t=t∧a.aX.a=bs i cj∧a.aX.c=cc∧a.aX.c2=Am.ij C cc∧a.aX.a2=bs i (cj+1)
 | .kG c b t cc n=>a.aH=3∧a.bM=c∧DO C i 1 7 a.aX∧a.aX.v=c∧a.aX.b=b∧a.aX.t=t∧a.aX.a=bs i cj∧a.aX.c=cc∧a.aX.c2=Am.ij C cc∧a.aX.a2=bs i (cj+1)∧a.aX.i=n
 | .kO c b t cc n x=>a.aH=3∧a.bM=c∧DO C i 1 8 a.aX∧a.aX.v=c∧a.aX.b=b∧a.aX.t=t∧a.aX.a=bs i cj∧a.aX.c=cc∧a.aX.c2=Am.ij C cc∧a.aX.a2=bs i (cj+1)∧a.aX.i=n∧a.aX.x=x
 | .ni c b t cc=>a.aH=3∧a.bM=c∧DO C i 1 9 a.aX∧a.aX.v=c∧a.aX.b=b∧a.aX.c2=Am.ij C cc∧a.aX.a2=bs i (cj+1)
 | .kH c b cc=>a.aH=3∧a.bM=c∧DO C i 1 10 a.aX∧a.aX.v=c∧a.aX.b=b∧a.aX.a=bs i cj∧a.aX.c=cc
 | .oC c b=>a.aH=3∧a.bM=c∧DO C i 1 11 a.aX∧a.aX.b=b
 | .DA=>a.aH=4∧LO C i 2 8 1 a.bS
 | .qG j=>a.aH=4∧∃k:Nat,LO C i 2 9 k a.bS∧ring C i j k
 | .s5 j=>a.aH=4∧∃k:Nat,LO C i 2 7 k a.bS∧ring C i j k
 | .CR=>a.aH=8∧DO C i 2 1 a.aX∧a.aX.i=0∧a.aX.wG=false
 | .tH b=>a.aH=8∧DO C i 2 3 a.aX∧a.aX.i=0∧a.aX.wG=false∧a.aX.b=b
 | .og b=>a.aH=8∧DO C i 2 11 a.aX∧a.aX.i=0∧a.aX.wG=false∧a.aX.b=b∧a.aX.a=bs i cj
 | .AB b=>a.aH=8∧DO C i 2 2 a.aX∧a.aX.b=b∧a.aX.a=bs i cj∧a.aX.wG=false
 | .nQ t=>a.aH=8∧DO C i 2 11 a.aX∧a.aX.i=1∧a.aX.t=t∧a.aX.b<t∧a.aX.wG=false
 | .sA b t=>a.aH=8∧DO C i 2 4 a.aX∧a.aX.i=1∧a.aX.b=b∧a.aX.t=t∧a.aX.a=bs i cj
 | .oR b t cc=>a.aH=8∧DO C i 2 12 a.aX∧a.aX.i=1∧a.aX.b=b∧a.aX.t=t∧a.aX.a=bs i cj∧a.aX.c=cc
 | .rC b t x=>a.aH=8∧DO C i 2 13 a.aX∧a.aX.i=1∧a.aX.b=b∧a.aX.t=t∧a.aX.x=x
 | .pR t x wG=>a.aH=8∧DO C i 2 11 a.aX∧a.aX.i=1∧a.aX.t=t∧t≤a.aX.b∧a.aX.x=x∧a.aX.wG=wG
 | .oa=>a.aH=9∧a.tries=tr∧tr<3
 | .sB v t=>a.aH=10∧(a.tries=tr∧tr<3)∧a.dB=v∧DO C v 3 1 a.aX∧a.aX.t=t
 | .oh v t=>a.aH=10∧(a.tries=tr∧tr<3)∧a.dB=v∧DO C v 3 3 a.aX∧a.aX.t=t
 | .nR v t g=>a.aH=10∧(a.tries=tr∧tr<3)∧a.dB=v∧DO C v 3 4 a.aX∧a.aX.t=t∧a.aX.a=bs v g
 | .me v t g cc=>a.aH=10∧(a.tries=tr∧tr<3)∧a.dB=v∧DO C v 3 12 a.aX∧a.aX.t=t∧a.aX.a=bs v g∧a.aX.c=cc
 | .nj v t x=>a.aH=10∧(a.tries=tr∧tr<3)∧a.dB=v∧DO C v 3 13 a.aX∧a.aX.t=t∧a.aX.x=x
 | .AD=>a.aH=11∧a.tries=tr∧a.bS.cP=3∧a.bS.aA=3∧a.bS.bH=2+10*(C.F:Int)∧a.bS.bR=C.N
 | .flag=>(a.aH=9∧C.N=1)∨(RO C i 1 0 a∧a.parked=false)
 | .sleep=>RO C i 2 0 a∧a.parked=false
 | .so=>RO C i 3 0 a∧a.parked=false
 | .AU j=>a.parked=false∧∃k:Nat,RO C i 4 k a∧ring C i j k∧DO C j 4 2 a.bS.look
 | .zB j t=>a.parked=false∧∃k:Nat,RO C i 4 k a∧ring C i j k∧DO C j 4 1 a.bS.look∧a.bS.look.t=t
 | .parked=>a.parked=true∧∃k:Int,RO C i 5 k a
 | .back h=>a.parked=false∧∃k:Int,RO C i 6 k a∧a.bS.iH=if h then 17 else 16
 | .s6 h=>a.parked=false∧∃k:Int,RO C i 7 k a∧a.bS.iH=if h then 17 else 16
def fi(h:Option Nat):Int:=match h with
 | some f=>(f:Int)
 | none=>-1
structure VD(C:Am.k8)(s:Am.St)(i:Nat)(a:bB):Prop where
 self:a.bj=i
 aj:a.aj=fi (s.hold i)
 ph:ph C i (s.pc i) (s.tries i) (s.cur i) s.base a
structure Ld(x:Am.Fr)(f:Nat)(t:ay):Prop where
 fn:t.fn=x.fn
 ag:t.ag=x.ag
 par:t.parent=if f=0 then -1 else(x.par:Int)
 slot:t.slot=x.slot
 ck:t.ck=x.ck
 nr:t.nr=x.nr
 cg:∀r,r<16→GX.ag t.cg r=x.cg r
structure Pz(C:Am.k8)(p:aO)(s:Am.St)(S:ai):Prop where
 code:S.code=p.aq
 res:S.result=0
 tb:S.aR=1
 tf:S.aJ=C.F
 lb:S.bC=2+10*(C.F:Int)
 lw:S.aK=C.N
 dl:S.aP.length=C.N
 dq:∀v,v<C.N→GX.ag S.aP v=GN C v
 tl:S.ak.length=C.F
 tk:∀f,f<s.nf→Ld (s.fr f) f (GX.ag S.ak f)
 wl:S.ae.length=C.N
 wk:∀i,i<C.N→VD C s i (GX.ag S.ae i)
 left:S.left=s.val.isSome
 val:S.value=s.val.getD 0
section
variable {C:Am.k8}{s:Am.St}{p:aO}{S:ai}{i:Nat}
theorem ph.keep{j:Nat}{bs bs':Nat→Nat→Int}{pc:Am.Pc}{tr cj:Nat}{a:bB}(h:ph C j pc tr cj bs a)(h1:∀g,g≤cj+1→bs' j g=bs j g)(h2:∀v t g,pc= .nR v t g→bs' v g=bs v g)(h3:∀v t g cc,pc= .me v t g cc→bs' v g=bs v g):ph C j pc tr cj bs' a:=by
 unfold ph at h⊢
 have e0:=h1 cj (by omega)
 have e1:=h1 (cj+1) (by omega)
 cases pc<;>first
  | exact h
  | (simp only[e0,e1]at h⊢;exact h)
  | (simp only[h2 _ _ _ rfl]at h⊢;exact h)
  | (simp only[h3 _ _ _ _ rfl]at h⊢;exact h)
end
end Mo
end
section
namespace Mo
open Go SL GX
section
variable {K:Nat}{M M':ah}{o:aC}{v x:Int}
theorem ZV(h:o.kind≠0):¬o=(⟨0,0,0,0,0,0,0,0,0,0,0,0,0,false,0,0⟩:aC):=λe=>h (by rw[e])
theorem nl{k a:Int}(hk:o.kind=k)(ha:o.ag=a)(RC:k≠0)(ha0:a≠0)(hx:bt o M=some (v,0,M')){o':aC}
 (hn:(if k=1 then dV o v else if k=2 then dW o v else if k=3 then eX o v else jO o v)=some o'):eG M o=some (o',M'):=by
 unfold eG
 rw[fh (ZV (by rw[hk];exact RC)),fh (by rw[ha];exact ha0),eP,hx,cW,fQ rfl,hk]
 split at hn
 ·rename_i h;rw[fQ h,hn,aE]
 ·rename_i h;rw[fh h]
  split at hn
  ·rename_i h;rw[fQ h,hn,aE]
  ·rename_i h;rw[fh h]
   split at hn
   ·rename_i h;rw[fQ h,hn,aE]
   ·rename_i h;rw[fh h,hn,aE]
theorem GO(hk:o.kind≠0)(ha:o.ag≠0):lP o=some (0,0):=by
 unfold lP;rw[fh (ZV hk),fh ha]
theorem IA(hk:o.kind≠0)(ha:o.ag=0):lP o=some (o.code,o.value):=by
 unfold lP;rw[fh (ZV hk),fQ ha]
theorem Ns{a c n:Int}(ha0:0≤a)(ha:a≤1048576)(hc:1≤c)(LZ:c≤4096)(hn:-1000000000000≤n∧n≤1000000000000):mY a c n=some (a+1+(Am.ix n c:Int)):=by
 have e1:=Int.emod_nonneg n (b:=c) (by omega)
 have e2:=Int.emod_lt_of_pos n (show 0<c by omega)
 have e3:(Am.ix n c:Int)=n%c:=by unfold Am.ix;omega
 have e4:n.tmod c=if 0≤n∨c∣n then n%c else n%c-c:=by
  rw[Int.tmod_eq_emod];split
  ·omega
  ·rw[show((c.natAbs:Nat):Int)=c by omega]
 unfold mY
 rw[fQ (by omega),e3]
 by_cases h:0≤n∨c∣n
 ·rw[e4,fQ h,fh (by omega),eM (x:=a+1) (by omega),eM (by omega)]
 ·rw[e4,fh h,fQ (by omega),eM (x:=a+1) (by omega),eM (x:=n%c-c+c) (by omega),eM (by omega)];congr 1;omega
end
section
variable {C:Am.k8}{s:Am.St}{M:ah}{sz n:Nat}{o:aC}{i:Nat}
theorem AR.cast(h:AR C s M sz n)(hz:Am.SZ C s){a:Am.qR}(ha:Am.AJ C s a){x:Int}(hx:x=Am.place C s a):wi x=Am.place C s a:=by
 have p:=Am.zF hz ha
 have f:=h.fit
 have s1:=h.s1
 rw[hx,eM (by omega)]
theorem xd(s:Am.St)(i:Nat):s.cur i≤Am.gen s i:=by unfold Am.gen;omega
theorem Bz(h:AR C s M sz n)(hz:Am.SZ C s)(hn:n≤2000000000)(hi:i<C.N)(ha:o.ag=1)(hb:o.lz=Am.sD C i):bt o M=some (s.mem (.bot i),0,nt M M.cell 0 (Am.place C s (.bot i)) (s.mem (.bot i)) 0 true):=by
 unfold bt
 rw[fQ ha,h.cast hz (a:=.bot i) hi (by rw[hb];rfl),uA h hz hn (a:=.bot i) hi,cW]
theorem BA(h:AR C s M sz n)(hz:Am.SZ C s)(hn:n≤2000000000)(hi:i<C.N)(ha:o.ag=2)(hb:o.lz=Am.sD C i):bt o M=some (s.mem (.top i),0,nt M M.cell 0 (Am.place C s (.top i)) (s.mem (.top i)) 0 true):=by
 unfold bt
 rw[fh (by rw[ha];decide),fQ ha,h.cast hz (a:=.top i) hi (by rw[hb,Int.add_zero];rfl),uA h hz hn (a:=.top i) hi,cW]
theorem Fc(h:AR C s M sz n)(hz:Am.SZ C s)(hn:n≤2000000000)(hi:i<C.N)(ha:o.ag=3)(hb:o.lz=Am.sD C i):bt o M=some (s.mem (.buf i),0,nt M M.cell 0 (Am.place C s (.buf i)) (s.mem (.buf i)) 0 true):=by
 unfold bt
 rw[fh (by rw[ha];decide),fh (by rw[ha];decide),fQ ha,h.cast hz (a:=.buf i) hi (by rw[hb];rfl),uA h hz hn (a:=.buf i) hi,cW]
theorem Fe{g:Nat}(h:AR C s M sz n)(hz:Am.SZ C s)(hn:n≤2000000000)(hi:i<C.N)(hg:g≤Am.gen s i)(ha:o.ag=4)(hb:o.a=s.base i g):bt o M=some (s.mem (.cap i g),0,nt M M.cell 0 (Am.place C s (.cap i g)) (s.mem (.cap i g)) 0 true):=by
 unfold bt
 rw[fh (by rw[ha];decide),fh (by rw[ha];decide),fh (by rw[ha];decide),fQ ha,hb,show s.base i g=Am.place C s (.cap i g)from rfl,uA h hz hn (a:=.cap i g) ⟨hi,hg⟩,cW]
theorem PA{k:Nat}(h:AR C s M sz n)(hn:n≤2000000000)(ha:o.ag=5)(hk:o.c2=k)(hf:M.cell.length+(1+k)≤sz):bt o M=some (s.size,0,{nt M (M.cell++List.replicate (1+k) 0) 4 s.size ((1+k:Nat):Int) 0 true with dZ:=s.size+((1+k:Nat):Int)}):=by
 have s1:=h.s1
 unfold bt
 rw[fh (by rw[ha];decide),fh (by rw[ha];decide),fh (by rw[ha];decide),fh (by rw[ha];decide),fQ ha,hk,show wi (1+(k:Int))=((1+k:Nat):Int) by rw[eM (by omega)];omega,VC h hn (by omega) hf,cW]
theorem IB{g:Nat}(h:AR C s M sz n)(hz:Am.SZ C s)(hn:n≤2000000000)(hi:i<C.N)(hg:g≤Am.gen s i)(ha:o.ag=6)(hb:o.a2=s.base i g):bt o M=some (0,0,nt M (M.cell.set (Am.place C s (.cap i g)).toNat o.c2) 1 (Am.place C s (.cap i g)) o.c2 0 true):=by
 unfold bt
 rw[fh (by rw[ha];decide),fh (by rw[ha];decide),fh (by rw[ha];decide),fh (by rw[ha];decide),fh (by rw[ha];decide),fQ ha,hb,show s.base i g=Am.place C s (.cap i g)from rfl,rL h hz hn (a:=.cap i g) ⟨hi,hg⟩,ej]
theorem xp(h:AR C s M sz n)(hz:Am.SZ C s)(hC:C.OK)(hi:i<C.N){g:Nat}(hg:g≤Am.gen s i){c x:Int}(hc:c=Am.qY C g)(hx:-1000000000000≤x∧x≤1000000000000):mY (s.base i g) c x=some (Am.place C s (.el i g (Am.ix x c)))∧Am.AJ C s (.el i g (Am.ix x c)):=by
 have b1:=h.Py hz (a:=.cap i g) ⟨hi,hg⟩
 have p:=Am.zF hz (a:=.cap i g) ⟨hi,hg⟩
 have c1:=Am.Bx hC g
 have c2:=Am.Ix hC g
 have m4:=hC.m4
 have e2:=Int.emod_lt_of_pos x (show 0<c by omega)
 have e1:=Int.emod_nonneg x (b:=c) (by omega)
 refine⟨Ns p.1 (by have:=b1.2.1;show Am.place C s (.cap i g)≤_;omega) (by omega) (by omega) hx,hi,hg,?_⟩
 unfold Am.ix;omega
theorem PB{g:Nat}(h:AR C s M sz n)(hz:Am.SZ C s)(hC:C.OK)(hn:n≤2000000000)(hi:i<C.N)(hg:g≤Am.gen s i)(ha:o.ag=7)(hb:o.a=s.base i g)(hc:o.c=Am.qY C g)(hx:-1000000000000≤o.i∧o.i≤1000000000000) :
 bt o M=some (s.mem (.el i g (Am.ix o.i o.c)),0,nt M M.cell 0 (Am.place C s (.el i g (Am.ix o.i o.c))) (s.mem (.el i g (Am.ix o.i o.c))) 0 true):=by
 obtain⟨e1,e2⟩:=xp h hz hC hi hg hc hx
 unfold bt
 rw[fh (by rw[ha];decide),fh (by rw[ha];decide),fh (by rw[ha];decide),fh (by rw[ha];decide),fh (by rw[ha];decide),fh (by rw[ha];decide),fQ ha,hb,e1,aE,uA h hz hn e2,cW]
theorem PC{g:Nat}(h:AR C s M sz n)(hz:Am.SZ C s)(hC:C.OK)(hn:n≤2000000000)(hi:i<C.N)(hg:g≤Am.gen s i)(ha:o.ag=8)(hb:o.a2=s.base i g)(hc:o.c2=Am.qY C g)(hx:-1000000000000≤o.i∧o.i≤1000000000000) :
 bt o M=some (0,0,nt M (M.cell.set (Am.place C s (.el i g (Am.ix o.i o.c2))).toNat o.x) 1 (Am.place C s (.el i g (Am.ix o.i o.c2))) o.x 0 true):=by
 obtain⟨e1,e2⟩:=xp h hz hC hi hg hc hx
 unfold bt
 rw[fh (by rw[ha];decide),fh (by rw[ha];decide),fh (by rw[ha];decide),fh (by rw[ha];decide),fh (by rw[ha];decide),fh (by rw[ha];decide),fh (by rw[ha];decide),fQ ha,hb,e1,aE,rL h hz hn e2,ej]
theorem IC(h:AR C s M sz n)(hz:Am.SZ C s)(hn:n≤2000000000)(hi:i<C.N)(ha:o.ag=9)(hb:o.lz=Am.sD C i):bt o M=some (0,0,nt M (M.cell.set (Am.place C s (.buf i)).toNat o.a2) 1 (Am.place C s (.buf i)) o.a2 0 true):=by
 unfold bt
 rw[fh (by rw[ha];decide),fh (by rw[ha];decide),fh (by rw[ha];decide),fh (by rw[ha];decide),fh (by rw[ha];decide),fh (by rw[ha];decide),fh (by rw[ha];decide),fh (by rw[ha];decide),fQ ha,h.cast hz (a:=.buf i) hi (by rw[hb];rfl),rL h hz hn (a:=.buf i) hi,ej]
theorem PD{g:Nat}(h:AR C s M sz n)(hz:Am.SZ C s)(hC:C.OK)(hn:n≤2000000000)(hi:i<C.N)(hg:g≤Am.gen s i)(ha:o.ag=10)(hb:o.a=s.base i g)(hc:o.c=Am.qY C g)(hx:-1000000000000≤o.b∧o.b≤1000000000000) :
 bt o M=some (0,0,nt M (M.cell.set (Am.place C s (.el i g (Am.ix o.b o.c))).toNat o.v) 1 (Am.place C s (.el i g (Am.ix o.b o.c))) o.v 0 true):=by
 obtain⟨e1,e2⟩:=xp h hz hC hi hg hc hx
 unfold bt
 rw[fh (by rw[ha];decide),fh (by rw[ha];decide),fh (by rw[ha];decide),fh (by rw[ha];decide),fh (by rw[ha];decide),fh (by rw[ha];decide),fh (by rw[ha];decide),fh (by rw[ha];decide),fh (by rw[ha];decide),fQ ha,hb,e1,aE,rL h hz hn e2,ej]
theorem vC(h:AR C s M sz n)(hz:Am.SZ C s)(hn:n≤2000000000)(hi:i<C.N)(ha:o.ag=11)(hb:o.lz=Am.sD C i){v:Int}(hv:ie o=some v):bt o M=some (0,0,nt M (M.cell.set (Am.place C s (.bot i)).toNat v) 1 (Am.place C s (.bot i)) v 0 true):=by
 unfold bt
 rw[fh (by rw[ha];decide),fh (by rw[ha];decide),fh (by rw[ha];decide),fh (by rw[ha];decide),fh (by rw[ha];decide),fh (by rw[ha];decide),fh (by rw[ha];decide),fh (by rw[ha];decide),fh (by rw[ha];decide),fh (by rw[ha];decide),fQ ha,hv,aE,h.cast hz (a:=.bot i) hi (by rw[hb];rfl),rL h hz hn (a:=.bot i) hi,ej]
theorem GP{g:Nat}{x:Int}(h:AR C s M sz n)(hz:Am.SZ C s)(hC:C.OK)(hn:n≤2000000000)(hi:i<C.N)(hg:g≤Am.gen s i)(ha:o.ag=12)(hb:o.a=s.base i g)(hc:o.c=Am.qY C g)(hk:x=if o.kind=2 then o.b else o.t)(hx:-1000000000000≤x∧x≤1000000000000) :
 bt o M=some (s.mem (.el i g (Am.ix x o.c)),0,nt M M.cell 0 (Am.place C s (.el i g (Am.ix x o.c))) (s.mem (.el i g (Am.ix x o.c))) 0 true):=by
 obtain⟨e1,e2⟩:=xp h hz hC hi hg hc hx
 have e3:(if o.kind=2 then some o.b else some o.t)=some x:=by rw[hk];split<;>rfl
 unfold bt
 rw[fh (by rw[ha];decide),fh (by rw[ha];decide),fh (by rw[ha];decide),fh (by rw[ha];decide),fh (by rw[ha];decide),fh (by rw[ha];decide),fh (by rw[ha];decide),fh (by rw[ha];decide),fh (by rw[ha];decide),fh (by rw[ha];decide),fh (by rw[ha];decide),fQ ha,e3,aE,hb,e1,aE,uA h hz hn e2,cW]
theorem JU(h:AR C s M sz n)(hz:Am.SZ C s)(hn:n≤2000000000)(hi:i<C.N)(ha:o.ag=13)(hb:o.lz=Am.sD C i)(ht:-1000000000000≤o.t∧o.t≤1000000000000):bt o M=some (if s.mem (.top i)=o.t then 1 else 0,0,nt M (if s.mem (.top i)=o.t then M.cell.set (Am.place C s (.top i)).toNat (o.t+1)else M.cell) 2 (Am.place C s (.top i)) o.t (o.t+1) (s.mem (.top i)==o.t)):=by
 unfold bt
 rw[fh (by rw[ha];decide),fh (by rw[ha];decide),fh (by rw[ha];decide),fh (by rw[ha];decide),fh (by rw[ha];decide),fh (by rw[ha];decide),fh (by rw[ha];decide),fh (by rw[ha];decide),fh (by rw[ha];decide),fh (by rw[ha];decide),fh (by rw[ha];decide),fh (by rw[ha];decide),eM (x:=o.t+1) (by omega),h.cast hz (a:=.top i) hi (by rw[hb,Int.add_zero];rfl),Nr h hz hn (a:=.top i) hi,cW]
 by_cases e:s.mem (.top i)=o.t
 ·rw[fQ (by rw[e];simp),fQ e,fQ e]
 ·rw[fh (by simpa using e),fh e,fh e]
end
end Mo
end
section
namespace Mo
open Go SL GX
def xR:Option Am.Ev→aD
 | none=>⟨0,0,0,0,0,0⟩
 | some e=>⟨0,0,e.kind,e.aj,e.x,e.v⟩
def VE(i:Nat):Option Am.Ev→aD
 | none=>⟨0,0,0,0,0,0⟩
 | some e=>⟨0,i,e.kind,e.aj,e.x,e.v⟩
def Nt(e:Option Am.Ev):Prop:=match e with
 | none=>True
 | some e=>e.kind≠0
def QT(C:Am.k8)(s:Am.St)(w:Int)(a:Am.Acc):be:=⟨w,a.kind,Am.place C s a.a,a.x,a.y,a.ok⟩
def Lg(C:Am.k8)(s:Am.St)(M M':ah)(acc:Option Am.Acc):Prop:=
 M'.oT=M.oT∧M'.watched=M.watched∧M'.log=if M.watched=true then M.log++(acc.toList.map (QT C s M.oT))else M.log
def iB(C:Am.k8)(p:aO)(sz n:Nat)(M:ah)(o:Am.Out)(r:Option (aD×ai×ah)):Prop:=
 ∃S' M',r=some (xR o.ev,S',M')∧Pz C p o.s S'∧AR C o.s M' sz (n+1)∧Lg C o.s M M' o.acc∧Nt o.ev
structure uB(C:Am.k8)(p:aO)(s:Am.St)(S:ai)(M:ah)(sz n:Nat):Prop where
 ok:C.OK
 iS:Pz C p s S
 ar:AR C s M sz n
 z:Am.SZ C s
 bd:Am.BD s n
 dt:Am.DT C s
 fi:(Am.view s).FI C.N C.F
 fr:Am.FR C s
 n:n≤1000000000
 vd:Valid p
 cf:C=cfg p C.N C.F C.first C.most
 room :∃G,(sz:Int)=Am.S0 C+C.N*Am.tot C G∧Am.qY C G=C.most
section
variable {K:Nat}{C:Am.k8}{p:aO}{s:Am.St}{S:ai}{M:ah}{sz n i:Nat}{D:aF}
theorem Lg.nt{s':Am.St}{c:List Int}{k:Nat}{a:Am.qR}{x y pl:Int}{ok:Bool}(h:Am.place C s' a=pl):Lg C s' M (nt M c k pl x y ok) (some ⟨k,a,x,y,ok⟩):=by
 refine⟨rfl,rfl,?_⟩
 show(if M.watched=true then M.log++[_]else M.log)=_
 simp only[Option.toList_some,List.map_cons,List.map_nil,QT,h]
theorem Lg.none_{s':Am.St}:Lg C s' M M none:=by
 refine⟨rfl,rfl,?_⟩
 simp
def fF(S:ai)(i:Nat)(a:bB):ai:={S with ae:=S.ae.set i a}
abbrev act(S:ai)(i:Nat):bB:=ag S.ae i
theorem iN(i:Nat)(a:bB):(fF S i a).ae.length=S.ae.length:=List.length_set
theorem lu{a:bB}(h:i<S.ae.length):act (fF S i a) i=a:=by
 show ag (S.ae.set i a) i=a;rw[oe h,fQ rfl]
theorem GQ{a b:bB}:fF (fF S i a) i b=fF S i b:=by
 show {S with ae:=(S.ae.set i a).set i b}=_;rw[List.set_set];rfl
theorem Pz.act{s':Am.St}{a:bB}{q:Am.Pc}(h:Pz C p s S)(ht:Am.DT C s)(hi:i<C.N)(ha:VD C s' i a)(ZW:s'.pc=Am.fE s.pc i q)(hh:∀j,j≠i→s'.hold j=s.hold j)(Le:∀j,j≠i→s'.tries j=s.tries j)
 (hc:∀j,j≠i→s'.cur j=s.cur j) (hb:∀j g,(j≠i∨g≤s.cur i)→s'.base j g=s.base j g) (hf:s'.fr=s.fr) (hn:s'.nf=s.nf) (hv:s'.val=s.val):Pz C p s' (fF S i a):=by
 have hl:=h.wl
 refine⟨h.code,h.res,h.tb,h.tf,h.lb,h.lw,h.dl,h.dq,h.tl,λf hf'=>by rw[hf];exact h.tk f (hn▸ hf'),by rw[iN];exact h.wl,λj hj => ?_,by rw[hv];exact h.left,by rw[hv];exact h.val⟩
 show VD C s' j (GX.ag (S.ae.set i a) j)
 by_cases e:j=i
 ·subst e;rw[oe (by omega),fQ rfl];exact ha
 ·rw[oe (by omega),fh e]
  obtain⟨w1,w2,w3⟩:=h.wk j hj
  have ep:s'.pc j=s.pc j:=by rw[ZW];exact Am.bA e
  refine⟨w1,by rw[hh j e];exact w2,?_⟩
  rw[ep,Le j e,hc j e]
  have T:=ht.2 j hj
  refine w3.keep (λg _=>hb j g (.inl e)) (λv t g hq => ?_) (λv t g cc hq => ?_)
  ·unfold Am.Th at T;rw[hq]at T;simp only at T
   by_cases ev:v=i
   ·subst ev;exact hb v g (.inr T.2.2.2.1)
   ·exact hb v g (.inl ev)
  ·unfold Am.Th at T;rw[hq]at T;simp only at T
   by_cases ev:v=i
   ·subst ev;exact hb v g (.inr T.2.2.2.1)
   ·exact hb v g (.inl ev)
theorem rM{o':aC}{M':ah}{c v:Int}(h1:eG M (act S i).aX=some (o',M'))(h2:lP o'=some (c,v)) :
 jG S M (i:Int)=some (c,v,fF S i {act S i with aX:=o' },M'):=by
 unfold jG
 rw[Int.toNat_natCast,h1,ej]
 simp only
 rw[h2,ej];rfl
theorem Ff{o':aT}{M':ah}{c v:Int}(h1:cC M (act S i).cB=some (o',M'))(h2:gT o'=some (c,v)) :
 dS S M (i:Int)=some (c,v,fF S i {act S i with cB:=o' },M'):=by
 unfold dS
 rw[Int.toNat_natCast,h1,ej]
 simp only
 rw[h2,ej];rfl
theorem uh{o':bu}{M':ah}{c v:Int}(h1:dM M (act S i).bS=some (o',M'))(h2:mZ o'=some (c,v)) :
 iA S M (i:Int)=some (c,v,fF S i {act S i with bS:=o' },M'):=by
 unfold iA
 rw[Int.toNat_natCast,h1,ej]
 simp only
 rw[h2,ej];rfl
theorem uB.wh(b:uB C p s S M sz n)(hi:i<C.N):bT (i:Int) S.ae.length:=⟨by omega,by rw[b.iS.wl];omega⟩
theorem uB.wl(b:uB C p s S M sz n)(hi:i<C.N):i<S.ae.length:=by rw[b.iS.wl];exact hi
theorem uB.cN(b:uB C p s S M sz n):n≤2000000000:=by have:=b.n;omega
theorem uB.E8(b:uB C p s S M sz n){x:Int}(h:x∈Am.fM (s.pc i)):-1000000000000≤x∧x≤1000000000000:=by
 have:=b.bd.r i x h;have hn:=b.n;unfold Am.E9 at this;omega
theorem uB.GL(b:uB C p s S M sz n){a:Am.qR}(h:a.GL=true):-1000000000000≤s.mem a∧s.mem a≤1000000000000:=by
 have:=b.bd.m a h;have hn:=b.n;unfold Am.E9 at this;omega
theorem Nu{s':Am.St}{q:Am.Pc}(h:s'.pc=Am.fE s.pc i q)(hc:s'.cur=s.cur)(hg:Am.jC q=Am.jC (s.pc i)):Am.gen s'=Am.gen s:=by
 funext j;unfold Am.gen;rw[h,hc,Am.fD];split
 ·next e=>rw[e,hg]
 ·rfl
theorem Nv(C:Am.k8){a b:Nat}(h:a≤b):Am.tot C a≤Am.tot C b:=by
 induction b with
 | zero=>rw[show a=0 by omega];exact Nat.le_refl _
 | succ b ih =>
  by_cases e:a=b+1
  ·rw[e];exact Nat.le_refl _
  ·have:=ih (by omega);show _≤Am.tot C b+1+Am.qY C (b+1);omega
theorem GR{G:Nat}(hz:Am.SZ C s)(h1:(sz:Int)=Am.S0 C+C.N*Am.tot C G)(h2:Am.qY C G=C.most):s.size≤sz:=by
 have key:∀j,j<C.N→Am.tot C (Am.gen s j)≤Am.tot C G:=λj hj=>by
  rcases Nat.lt_or_ge G (Am.gen s j)with h | h
  ·have:=hz.gm j hj G h;omega
  ·exact Nv C h
 have:=Am.JR (f:=λj=>Am.tot C (Am.gen s j)) (k:=Am.tot C G) (n:=C.N) key
 rw[hz.size,h1]
 have e:((C.N*Am.tot C G:Nat):Int)=(C.N:Int)*(Am.tot C G:Int):=by simp
 omega
theorem iB.mk{a:bB}{M':ah}{o:Am.Out}{q:Am.Pc}{r:Option (aD×ai×ah)}(b:uB C p s S M sz n)(hi:i<C.N)(hr:r=some (xR o.ev,fF S i a,M'))
 (BF:a.bj=i) (hfr:a.aj=fi (o.s.hold i)) (hq:o.s.pc=Am.fE s.pc i q) (ZX:ph C i q (o.s.tries i) (o.s.cur i) o.s.base a) (har:AR C o.s M' sz (n+1)) (VF:Lg C o.s M M' o.acc) (Tz:Nt o.ev)
 (hh:∀j,j≠i→o.s.hold j=s.hold j:=by intros;rfl) (Le:∀j,j≠i→o.s.tries j=s.tries j:=by intros;rfl) (hc:∀j,j≠i→o.s.cur j=s.cur j:=by intros;rfl)
 (hb:∀j g,(j≠i∨g≤s.cur i)→o.s.base j g=s.base j g:=by intros;rfl) (hf:o.s.fr=s.fr:=by rfl) (hn:o.s.nf=s.nf:=by rfl) (hv:o.s.val=s.val:=by rfl):iB C p sz n M o r:=
 ⟨_,_,hr,b.iS.act b.dt hi ⟨BF,hfr,by rw[hq,Am.bQ];exact ZX⟩ hq hh Le hc hb hf hn hv,har,VF,Tz⟩
theorem uB.uE(b:uB C p s S M sz n){s':Am.St}{q:Am.Pc}(hq:s'.pc=Am.fE s.pc i q)(hg:Am.jC q=Am.jC (s.pc i))(k a x y:Int)(ok:Bool)(h1:s'.mem=s.mem:=by rfl)(h2:s'.size=s.size:=by rfl)(h3:s'.base=s.base:=by rfl)(h4:s'.cur=s.cur:=by rfl) :
 AR C s' (nt M M.cell k a x y ok) sz (n+1):=b.ar.same h1 h2 h3 (Nu hq h4 hg) k a x y ok
theorem uB.wc(b:uB C p s S M sz n){s':Am.St}{q:Am.Pc}{c:Am.qR}{v:Int}(hq:s'.pc=Am.fE s.pc i q)(hg:Am.jC q=Am.jC (s.pc i))(hb:Am.AJ C s c)(k a x y:Int)(ok:Bool)(h1:s'.mem=Am.fE s.mem c v:=by rfl)(h2:s'.size=s.size:=by rfl)(h3:s'.base=s.base:=by rfl)(h4:s'.cur=s.cur:=by rfl) :
 AR C s' (nt M (M.cell.set (Am.place C s c).toNat v) k a x y ok) sz (n+1):=b.ar.set b.z hb h1 h2 h3 (Nu hq h4 hg) k a x y ok
end
section
variable {K:Nat}{C:Am.k8}{p:aO}{s:Am.St}{S:ai}{M:ah}{sz n i:Nat}{D:aF}{d:Int}
theorem CV(b:uB C p s S M sz n)(hi:i<C.N){c:Nat}(hg:(Am.view s).g i= .push c):c<s.nf:=by
 have z:=b.fi.ps i c hi hg
 rcases Nat.lt_or_ge c s.nf with h | h
 ·exact h
 ·have:=b.fi.free c h;rw[this]at z;exact absurd z.2.1 (by simp)
theorem uB.task(b:uB C p s S M sz n){f:Nat}(hf:f<s.nf):bT (f:Int) S.ak.length:=⟨by omega,by rw[b.iS.tl];have:s.nf≤C.F:=b.fi.tM;omega⟩
theorem oq(b:uB C p s S M sz n)(hi:i<C.N){c:Nat}(hc:(act S i).bM=c)(hg:(Am.view s).g i= .push c){o':aC}{M':ah}(h1:eG M (act S i).aX=some (o',M'))(h2:o'.kind=1)(h3:o'.ag≠0) :
 bX S M (i:Int) D=some (xR none,fF S i {act S i with aX:=o' },M'):=by
 have hin:bT (act S i).bM S.ak.length:=by rw[hc];exact b.task (CV b hi hg)
 unfold bX dz
 rw[Int.toNat_natCast,fQ hin,ia,fQ hin,rM h1 (GO (by rw[h2];decide) h3),fz,fQ rfl];rfl
section
variable (b:uB C p s S M sz n)(hi:i<C.N)
include b hi
theorem Nw{c:Nat}(hp:s.pc i= .zA c):iB C p sz n M (Am.step C s i d) (bX S M (i:Int) D):=by
 obtain⟨w1,w2,w3⟩:=b.iS.wk i hi
 rw[hp]at w3
 obtain⟨a1,a2,⟨o1,o2,o3,o4⟩,a3⟩:=w3
 have hs:=nl o1 o2 (by decide) (by decide) (Bz b.ar b.z b.cN hi o2 o3) (o':={(act S i).aX with ag:=2,b:=s.mem (.bot i)}) (by
  rw[fQ rfl];unfold dV;rw[fQ o2])
 unfold Am.step;rw[hp];simp only
 exact .mk b hi (oq b hi a2 (by show Am.sig (s.pc i)=_;rw[hp];rfl) hs o1 (by show(2:Int)≠0;decide)) w1 w2 rfl ⟨a1,a2,⟨o1,rfl,o3,o4⟩,a3,rfl⟩ (b.uE rfl (by rw[hp];rfl) _ _ _ _ _) (Lg.nt rfl) trivial
theorem Nx{c:Nat}{bb:Int}(hp:s.pc i= .vR c bb):iB C p sz n M (Am.step C s i d) (bX S M (i:Int) D):=by
 obtain⟨w1,w2,w3⟩:=b.iS.wk i hi
 rw[hp]at w3
 obtain⟨a1,a2,⟨o1,o2,o3,o4⟩,a3,a4⟩:=w3
 have hs:=nl o1 o2 (by decide) (by decide) (BA b.ar b.z b.cN hi o2 o3) (o':={(act S i).aX with ag:=3,t:=s.mem (.top i)}) (by
  rw[fQ rfl];unfold dV;rw[fh (by rw[o2];decide),fQ o2])
 unfold Am.step;rw[hp];simp only
 exact .mk b hi (oq b hi a2 (by show Am.sig (s.pc i)=_;rw[hp];rfl) hs o1 (by show(3:Int)≠0;decide)) w1 w2 rfl ⟨a1,a2,⟨o1,rfl,o3,o4⟩,a3,a4,rfl⟩ (b.uE rfl (by rw[hp];rfl) _ _ _ _ _) (Lg.nt rfl) trivial
theorem ID{c:Nat}{bb t:Int}(hp:s.pc i= .pJ c bb t):iB C p sz n M (Am.step C s i d) (bX S M (i:Int) D):=by
 obtain⟨w1,w2,w3⟩:=b.iS.wk i hi
 rw[hp]at w3
 obtain⟨a1,a2,⟨o1,o2,o3,o4⟩,a3,a4,a5⟩:=w3
 have hs:=nl o1 o2 (by decide) (by decide) (Fc b.ar b.z b.cN hi o2 o3) (o':={(act S i).aX with ag:=4,a:=s.mem (.buf i)}) (by
  rw[fQ rfl];unfold dV;rw[fh (by rw[o2];decide),fh (by rw[o2];decide),fQ o2])
 unfold Am.step;rw[hp];simp only
 exact .mk b hi (oq b hi a2 (by show Am.sig (s.pc i)=_;rw[hp];rfl) hs o1 (by show(4:Int)≠0;decide)) w1 w2 rfl ⟨a1,a2,⟨o1,rfl,o3,o4⟩,a3,a4,a5,(b.dt.1 i hi).AE⟩ (b.uE rfl (by rw[hp];rfl) _ _ _ _ _) (Lg.nt rfl) trivial
end
end
end Mo
end
section
namespace Mo
open Go SL GX
theorem PE{o:aC}{v:Int}(ha:o.ag=4)(h1:1≤v)(h2:v≤4096)(hb:-4000000000000≤o.b-o.t∧o.b-o.t≤4000000000000):dV o v=if o.b-o.t<v then some {o with ag:=10,c:=v}else if o.lK≤v then some {o with ag:=0,c:=v,code:=3,value:=0}
 else some {o with ag:=5,c:=v,c2:=if o.lK<2*v then o.lK else 2*v}:=by
 unfold dV dL
 rw[fh (by rw[ha];decide),fh (by rw[ha];decide),fh (by rw[ha];decide),fQ ha,fh (by omega),eM (x:=o.b-o.t) (by omega),eM (x:=2*v) (by omega)];rfl
theorem PF{o:aC}{v:Int}(ha:o.ag=8)(hb:-4000000000000≤o.i∧o.i≤4000000000000):dV o v=if o.i+1=o.b then some {o with ag:=9,i:=o.i+1}else some {o with ag:=7,i:=o.i+1}:=by
 unfold dV
 rw[fh (by rw[ha];decide),fh (by rw[ha];decide),fh (by rw[ha];decide),fh (by rw[ha];decide),fh (by rw[ha];decide),fh (by rw[ha];decide),fh (by rw[ha];decide),fQ ha,eM (x:=o.i+1) (by omega)]
section
variable {K:Nat}{C:Am.k8}{p:aO}{s:Am.St}{S:ai}{M:ah}{sz n i:Nat}{D:aF}{d:Int}
variable (b:uB C p s S M sz n)(hi:i<C.N)
include b hi
theorem QU:s.mem (.cap i (s.cur i))=Am.qY C (s.cur i)∧(1:Int)≤s.mem (.cap i (s.cur i))∧s.mem (.cap i (s.cur i))≤C.most∧(C.most:Int)≤4096:=by
 have h:=Am.AH b.z hi
 have h1:=Am.Bx b.ok (s.cur i)
 have h2:=Am.Ix b.ok (s.cur i)
 have h3:=b.ok.m4
 change s.mem (.cap i (s.cur i))=_ at h
 omega
theorem Lf{c:Nat}(hc:(act S i).bM=c)(hg:(Am.view s).g i= .push c){o':aC}{M':ah}(h1:eG M (act S i).aX=some (o',M'))(h2:o'.kind=1)(h3:o'.ag=0)(h4:o'.code=3) :
 bX S M (i:Int) D=some (xR (Am.ev 11 c 1 0),fF S i {{act S i with aX:=o' }with aH:=14},M'):=by
 have hin:bT (act S i).bM S.ak.length:=by rw[hc];exact b.task (CV b hi hg)
 have hw:=b.wl hi
 unfold bX dz
 rw[Int.toNat_natCast,fQ hin,ia,fQ hin,rM h1 (IA (by rw[h2];decide) h3),fz,h4,fh (by decide),fQ rfl,fQ (by rw[iN];exact b.wh hi)]
 rw[show ag (fF S i {act S i with aX:=o' }).ae i={act S i with aX:=o' }from lu hw]
 show some (_,fF (fF S i _) i _,_)=_
 rw[GQ]
 show some ((⟨0,0,11,(act S i).bM,1,0⟩:aD),_,_)=_
 rw[hc];rfl
theorem IE{c:Nat}{bb t:Int}(hp:s.pc i= .pK c bb t):iB C p sz n M (Am.step C s i d) (bX S M (i:Int) D):=by
 obtain⟨w1,w2,w3⟩:=b.iS.wk i hi
 rw[hp]at w3
 obtain⟨a1,a2,⟨o1,o2,o3,o4⟩,a3,a4,a5,a6⟩:=w3
 obtain⟨c0,c1,c2,c3⟩:=QU b hi
 have r1:=b.E8 (i:=i) (x:=bb) (by rw[hp];simp[Am.fM])
 have r2:=b.E8 (i:=i) (x:=t) (by rw[hp];simp[Am.fM])
 have hg:(Am.view s).g i= .push c:=by show Am.sig (s.pc i)=_;rw[hp];rfl
 have hs:∀o',dV (act S i).aX (s.mem (.cap i (s.cur i)))=some o'→_:=λo' h=>nl o1 o2 (by decide) (by decide) (Fe b.ar b.z b.cN hi (xd s i) o2 a6) (o':=o') (by rw[fQ rfl];exact h)
 have e0:=PE o2 (v:=s.mem (.cap i (s.cur i))) c1 (by omega) (by rw[a4,a5];omega)
 unfold Am.step;rw[hp];simp only
 by_cases h1:bb-t<s.mem (.cap i (s.cur i))
 ·rw[fQ h1];rw[fQ (by rw[a4,a5];exact h1)]at e0
  exact .mk b hi (oq b hi a2 hg (hs _ e0) o1 (by show(10:Int)≠0;decide)) w1 w2 rfl ⟨a1,a2,⟨o1,rfl,o3,o4⟩,a3,a4,a6,rfl⟩ (b.uE rfl (by rw[hp];rfl) _ _ _ _ _) (Lg.nt rfl) trivial
 ·rw[fh h1];rw[fh (by rw[a4,a5];exact h1)]at e0
  by_cases h2:(C.most:Int)≤s.mem (.cap i (s.cur i))
  ·rw[fQ h2];rw[fQ (by rw[o4];exact h2)]at e0
   exact .mk b hi (Lf b hi a2 hg (hs _ e0) o1 rfl rfl) w1 w2 rfl rfl (b.uE rfl (by rw[hp];rfl) _ _ _ _ _) (Lg.nt rfl) (by show(11:Nat)≠0;decide)
  ·rw[fh h2];rw[fh (by rw[o4];exact h2)]at e0
   refine .mk b hi (oq b hi a2 hg (hs _ e0) o1 (by show(5:Int)≠0;decide)) w1 w2 rfl ⟨a1,a2,⟨o1,rfl,o3,o4⟩,a3,a4,a5,a6,rfl,?_⟩ (b.uE rfl (by rw[hp];rfl) _ _ _ _ _) (Lg.nt rfl) trivial
   show(if(act S i).aX.lK<_ then(act S i).aX.lK else _)=_
   rw[o4];unfold Am.ij;split<;>split<;>omega
theorem Fg{c:Nat}{bb t cc:Int}(h:Am.zD C s i bb t cc):cc=Am.qY C (s.cur i)∧Am.ij C cc=Am.qY C (s.cur i+1)∧(1:Int)≤Am.ij C cc∧Am.ij C cc≤4096:=by
 have e:=h.2.2.2.2.1
 rw[Am.AH b.z hi]at e
 have h1:=Am.Bx b.ok (s.cur i+1)
 have h2:=Am.Ix b.ok (s.cur i+1)
 have h3:=b.ok.m4
 refine⟨e,by rw[e];exact Am.vA C _,?_,?_⟩<;>rw[e,Am.vA C]<;>omega
theorem PG{c:Nat}{bb t cc:Int}(hp:s.pc i= .grow c bb t cc):iB C p sz n M (Am.step C s i d) (bX S M (i:Int) D):=by
 obtain⟨w1,w2,w3⟩:=b.iS.wk i hi
 rw[hp]at w3
 obtain⟨a1,a2,⟨o1,o2,o3,o4⟩,a3,a4,a5,a6,a7,a8⟩:=w3
 have P:=(b.dt.1 i hi).ph
 unfold Am.n3 at P;rw[hp]at P;simp only at P
 obtain⟨g1,g2,g3,g4⟩:=Fg b hi (c:=c) P
 have hg:(Am.view s).g i= .push c:=by show Am.sig (s.pc i)=_;rw[hp];rfl
 have IF:Am.gen s i=s.cur i:=by unfold Am.gen;rw[hp];rfl
 obtain⟨G,q1,q2⟩:=b.room
 have Kg:=b.z.step b.ok b.dt hi d
 have hsz:=GR Kg q1 q2
 have hlen:=b.ar.cl.len
 have hss:(Am.step C s i d).s.size=s.size+1+Am.qY C (s.cur i+1):=by unfold Am.step;rw[hp];show s.size+1+Am.ij C cc=_;rw[g2]
 have hs:=nl o1 o2 (by decide) (by decide) (PA (k:=Am.qY C (s.cur i+1)) b.ar b.cN o2 (by rw[a8];exact g2) (by omega)) (o':={(act S i).aX with ag:=6,a2:=s.size}) (by
  rw[fQ rfl];unfold dV;rw[fh (by rw[o2];decide),fh (by rw[o2];decide),fh (by rw[o2];decide),fh (by rw[o2];decide),fQ o2])
 have hgs:Am.gen (Am.step C s i d).s=Am.fE (Am.gen s) i (s.cur i+1):=by
  unfold Am.step;rw[hp];simp only
  funext j;rw[Am.fD];unfold Am.gen;simp only[Am.St.to,Am.fD]
  split
  ·next e=>subst e;rfl
  ·rfl
 have Od:=b.ar.cl.grow (s':=(Am.step C s i d).s) b.z hi IF (λa=>by unfold Am.step;rw[hp];cases a<;>rfl) hss (by unfold Am.step;rw[hp];rfl) hgs
 have ZY:(Am.step C s i d).s.base=Am.fE s.base i (Am.fE (s.base i) (s.cur i+1) s.size):=by unfold Am.step;rw[hp];rfl
 have har:AR C (Am.step C s i d).s {nt M (M.cell++List.replicate (1+Am.qY C (s.cur i+1)) 0) 4 s.size ((1+Am.qY C (s.cur i+1):Nat):Int) 0 true with dZ:=s.size+((1+Am.qY C (s.cur i+1):Nat):Int)} sz (n+1):=by
  refine⟨b.ar.size,b.ar.s1,hsz,?_,Od,?_⟩
  ·show s.size+((1+Am.qY C (s.cur i+1):Nat):Int)=(((M.cell++List.replicate _ 0).length:Nat):Int)
   rw[List.length_append,List.length_replicate];omega
  ·have:=b.ar.lg
   show(if M.watched=true then M.log++[_]else M.log).length≤_
   split
   ·rw[List.length_append];simp;omega
   ·omega
 have VF:Lg C (Am.step C s i d).s M {nt M (M.cell++List.replicate (1+Am.qY C (s.cur i+1)) 0) 4 s.size ((1+Am.qY C (s.cur i+1):Nat):Int) 0 true with dZ:=s.size+((1+Am.qY C (s.cur i+1):Nat):Int)} (Am.Si (.cap i (s.cur i+1)) (1+Am.ij C cc)):=by
  have pl:Am.place C (Am.step C s i d).s (.cap i (s.cur i+1))=s.size:=by show(Am.step C s i d).s.base i (s.cur i+1)=_;rw[ZY,Am.bQ,Am.bQ]
  have e:((1+Am.qY C (s.cur i+1):Nat):Int)=1+Am.ij C cc:=by rw[g2];omega
  rw[e]
  exact Lg.nt (M:=M) (c:=M.cell++List.replicate (1+Am.qY C (s.cur i+1)) 0) pl
 have hb:∀j g,(j≠i∨g≤s.cur i)→(Am.step C s i d).s.base j g=s.base j g:=λj g h=>by
  rw[ZY,Am.fD];split
  ·next e=>subst e;rw[Am.bA (by omega)]
  ·rfl
 have VG:(Am.step C s i d).s.cur=s.cur:=by unfold Am.step;rw[hp];rfl
 have ZW:(Am.step C s i d).s.pc=Am.fE s.pc i (.nh c bb t cc):=by unfold Am.step;rw[hp];rfl
 have Tz:(Am.step C s i d).ev=none:=by unfold Am.step;rw[hp]
 have hac:(Am.step C s i d).acc=Am.Si (.cap i (s.cur i+1)) (1+Am.ij C cc):=by unfold Am.step;rw[hp]
 refine iB.mk (a:={act S i with aX:={(act S i).aX with ag:=6,a2:=s.size}}) b hi (by rw[Tz];exact oq b hi a2 hg hs o1 (by show(6:Int)≠0;decide)) w1 (by show(act S i).aj=_;rw[w2];unfold Am.step;rw[hp];rfl) ZW ?_ har (by rw[hac];exact VF) (by rw[Tz];trivial)
  (by unfold Am.step;rw[hp];intros;rfl) (by unfold Am.step;rw[hp];intros;rfl) (λj _=>by rw[VG]) hb (by unfold Am.step;rw[hp];rfl) (by unfold Am.step;rw[hp];rfl) (by unfold Am.step;rw[hp];rfl)
 rw[VG]
 refine⟨a1,a2,⟨o1,rfl,o3,o4⟩,a3,a4,a5,?_,a7,a8,?_⟩
 ·rw[hb i (s.cur i) (.inr (Nat.le_refl _))];exact a6
 ·show s.size=_;rw[ZY,Am.bQ,Am.bQ]
theorem IG{c:Nat}{bb t cc:Int}(hp:s.pc i= .nh c bb t cc):iB C p sz n M (Am.step C s i d) (bX S M (i:Int) D):=by
 obtain⟨w1,w2,w3⟩:=b.iS.wk i hi
 rw[hp]at w3
 obtain⟨a1,a2,⟨o1,o2,o3,o4⟩,a3,a4,a5,a6,a7,a8,a9⟩:=w3
 have hg:(Am.view s).g i= .push c:=by show Am.sig (s.pc i)=_;rw[hp];rfl
 have IF:s.cur i+1≤Am.gen s i:=by unfold Am.gen;rw[hp];exact Nat.le_refl _
 have hs:=nl o1 o2 (by decide) (by decide) (IB b.ar b.z b.cN hi IF o2 a9) (o':={(act S i).aX with ag:=7,i:=(act S i).aX.t}) (by
  rw[fQ rfl];unfold dV;rw[fh (by rw[o2];decide),fh (by rw[o2];decide),fh (by rw[o2];decide),fh (by rw[o2];decide),fh (by rw[o2];decide),fQ o2])
 rw[a8]at hs
 unfold Am.step;rw[hp];simp only
 exact .mk b hi (oq b hi a2 hg hs o1 (by show(7:Int)≠0;decide)) w1 w2 rfl ⟨a1,a2,⟨o1,rfl,o3,o4⟩,a3,a4,a5,a6,a7,a8,a9,a5⟩ (b.wc (c:=.cap i (s.cur i+1)) rfl (by rw[hp];rfl) ⟨hi,IF⟩ _ _ _ _ _) (Lg.nt rfl) trivial
theorem GS{c:Nat}{bb t cc m:Int}(hp:s.pc i= .kG c bb t cc m):iB C p sz n M (Am.step C s i d) (bX S M (i:Int) D):=by
 obtain⟨w1,w2,w3⟩:=b.iS.wk i hi
 rw[hp]at w3
 obtain⟨a1,a2,⟨o1,o2,o3,o4⟩,a3,a4,a5,a6,a7,a8,a9,Oe⟩:=w3
 have P:=(b.dt.1 i hi).ph
 unfold Am.n3 at P;rw[hp]at P;simp only at P
 obtain⟨g1,g2,g3,g4⟩:=Fg b hi (c:=c) P.1
 have r1:=b.E8 (i:=i) (x:=m) (by rw[hp];simp[Am.fM])
 have hg:(Am.view s).g i= .push c:=by show Am.sig (s.pc i)=_;rw[hp];rfl
 have hs:=nl o1 o2 (by decide) (by decide) (PB b.ar b.z b.ok b.cN hi (xd s i) o2 a6 (by rw[a7];exact g1) (by rw[Oe];exact r1)) (o':={(act S i).aX with ag:=8,x:=s.mem (.el i (s.cur i) (Am.ix (act S i).aX.i (act S i).aX.c))}) (by
  rw[fQ rfl];unfold dV;rw[fh (by rw[o2];decide),fh (by rw[o2];decide),fh (by rw[o2];decide),fh (by rw[o2];decide),fh (by rw[o2];decide),fh (by rw[o2];decide),fQ o2])
 rw[a7,Oe]at hs
 unfold Am.step;rw[hp];simp only
 exact .mk b hi (oq b hi a2 hg hs o1 (by show(8:Int)≠0;decide)) w1 w2 rfl ⟨a1,a2,⟨o1,rfl,o3,o4⟩,a3,a4,a5,a6,a7,a8,a9,Oe,rfl⟩ (b.uE rfl (by rw[hp];rfl) _ _ _ _ _) (Lg.nt rfl) trivial
theorem Fh{c:Nat}{bb t cc m x:Int}(hp:s.pc i= .kO c bb t cc m x):iB C p sz n M (Am.step C s i d) (bX S M (i:Int) D):=by
 obtain⟨w1,w2,w3⟩:=b.iS.wk i hi
 rw[hp]at w3
 obtain⟨a1,a2,⟨o1,o2,o3,o4⟩,a3,a4,a5,a6,a7,a8,a9,Oe,a11⟩:=w3
 have P:=(b.dt.1 i hi).ph
 unfold Am.n3 at P;rw[hp]at P;simp only at P
 obtain⟨g1,g2,g3,g4⟩:=Fg b hi (c:=c) P.1
 have r1:=b.E8 (i:=i) (x:=m) (by rw[hp];simp[Am.fM])
 have hg:(Am.view s).g i= .push c:=by show Am.sig (s.pc i)=_;rw[hp];rfl
 have IF:s.cur i+1≤Am.gen s i:=by unfold Am.gen;rw[hp];exact Nat.le_refl _
 have hac:=PC b.ar b.z b.ok b.cN hi IF o2 a9 (by rw[a8];exact g2) (by rw[Oe];exact r1)
 rw[a8,Oe,a11]at hac
 have hv:=(xp (x:=m) b.ar b.z b.ok hi IF g2 r1).2
 have e0:=PF o2 (v:=0) (by rw[Oe];omega)
 have hlt:=P.2.2.2.1
 unfold Am.step;rw[hp];simp only
 by_cases e:m+1<bb
 ·rw[fQ e];rw[fh (by rw[Oe,a4];omega)]at e0
  have hs:=nl o1 o2 (by decide) (by decide) hac (o':=_) (by rw[fQ rfl];exact e0)
  exact .mk b hi (oq b hi a2 hg hs o1 (by show(7:Int)≠0;decide)) w1 w2 rfl ⟨a1,a2,⟨o1,rfl,o3,o4⟩,a3,a4,a5,a6,a7,a8,a9,by rw[←Oe]⟩ (b.wc (c:=.el i (s.cur i+1) (Am.ix m (Am.ij C cc))) rfl (by rw[hp];rfl) hv _ _ _ _ _) (Lg.nt rfl) trivial
 ·rw[fh e];rw[fQ (by rw[Oe,a4];omega)]at e0
  have hs:=nl o1 o2 (by decide) (by decide) hac (o':=_) (by rw[fQ rfl];exact e0)
  exact .mk b hi (oq b hi a2 hg hs o1 (by show(9:Int)≠0;decide)) w1 w2 rfl ⟨a1,a2,⟨o1,rfl,o3,o4⟩,a3,a4,a8,a9⟩ (b.wc (c:=.el i (s.cur i+1) (Am.ix m (Am.ij C cc))) rfl (by rw[hp];rfl) hv _ _ _ _ _) (Lg.nt rfl) trivial
theorem II{c:Nat}{bb t cc:Int}(hp:s.pc i= .ni c bb t cc):iB C p sz n M (Am.step C s i d) (bX S M (i:Int) D):=by
 obtain⟨w1,w2,w3⟩:=b.iS.wk i hi
 rw[hp]at w3
 obtain⟨a1,a2,⟨o1,o2,o3,o4⟩,a3,a4,a8,a9⟩:=w3
 have hg:(Am.view s).g i= .push c:=by show Am.sig (s.pc i)=_;rw[hp];rfl
 have hs:=nl o1 o2 (by decide) (by decide) (IC b.ar b.z b.cN hi o2 o3) (o':={(act S i).aX with ag:=10,a:=(act S i).aX.a2,c:=(act S i).aX.c2}) (by
  rw[fQ rfl];unfold dV;rw[fh (by rw[o2];decide),fh (by rw[o2];decide),fh (by rw[o2];decide),fh (by rw[o2];decide),fh (by rw[o2];decide),fh (by rw[o2];decide),fh (by rw[o2];decide),fh (by rw[o2];decide),fQ o2])
 unfold Am.step;rw[hp];simp only
 have hcu:Am.fE s.cur i (s.cur i+1) i=s.cur i+1:=Am.bQ _ _ _
 refine .mk b hi (oq b hi a2 hg hs o1 (by show(10:Int)≠0;decide)) w1 w2 (q:=.kH c bb (Am.ij C cc)) rfl ?_ ?_ ?_ trivial (hc:=λj hj=>Am.bA hj)
 ·show ph C i _ _ (Am.fE s.cur i (s.cur i+1) i) _ _
  rw[hcu];exact⟨a1,a2,⟨o1,rfl,o3,o4⟩,a3,a4,a9,a8⟩
 ·rw[a9]
  refine b.ar.set (s':=({s.wr (.buf i) (s.base i (s.cur i+1))with cur:=Am.fE s.cur i (s.cur i+1)}:Am.St).to i (.kH c bb (Am.ij C cc))) b.z (b:=.buf i) (v:=s.base i (s.cur i+1)) hi rfl rfl rfl ?_ _ _ _ _ _
  funext j;unfold Am.gen;simp only[Am.St.to,Am.St.wr,Am.fD]
  split
  ·next e=>subst e;rw[hp];rfl
  ·rfl
 ·rw[a9];exact Lg.nt rfl
theorem GU{c:Nat}{bb cc:Int}(hp:s.pc i= .kH c bb cc):iB C p sz n M (Am.step C s i d) (bX S M (i:Int) D):=by
 obtain⟨w1,w2,w3⟩:=b.iS.wk i hi
 rw[hp]at w3
 obtain⟨a1,a2,⟨o1,o2,o3,o4⟩,a3,a4,a6,a7⟩:=w3
 have P:=(b.dt.1 i hi).ph
 unfold Am.n3 at P;rw[hp]at P;simp only at P
 have LH:cc=Am.qY C (s.cur i):=P.2.2.2.trans (Am.AH b.z hi)
 have r1:=b.E8 (i:=i) (x:=bb) (by rw[hp];simp[Am.fM])
 have hg:(Am.view s).g i= .push c:=by show Am.sig (s.pc i)=_;rw[hp];rfl
 have hv:=(xp (x:=bb) b.ar b.z b.ok hi (xd s i) LH r1).2
 have hs:=nl o1 o2 (by decide) (by decide) (PD b.ar b.z b.ok b.cN hi (xd s i) o2 a6 (by rw[a7];exact LH) (by rw[a4];exact r1)) (o':={(act S i).aX with ag:=11}) (by
  rw[fQ rfl];unfold dV;rw[fh (by rw[o2];decide),fh (by rw[o2];decide),fh (by rw[o2];decide),fh (by rw[o2];decide),fh (by rw[o2];decide),fh (by rw[o2];decide),fh (by rw[o2];decide),fh (by rw[o2];decide),fh (by rw[o2];decide),fQ o2])
 rw[a7,a4,a3]at hs
 unfold Am.step;rw[hp];simp only
 exact .mk b hi (oq b hi a2 hg hs o1 (by show(11:Int)≠0;decide)) w1 w2 rfl ⟨a1,a2,⟨o1,rfl,o3,o4⟩,a4⟩ (b.wc (c:=.el i (s.cur i) (Am.ix bb cc)) rfl (by rw[hp];rfl) hv _ _ _ _ _) (Lg.nt rfl) trivial
end
end Mo
end
section
namespace Mo
open Go SL GX
theorem VH{o:aC}(hk:o.kind=1)(hb:-4000000000000≤o.b∧o.b≤4000000000000):ie o=some (o.b+1):=by
 unfold ie;rw[fQ hk,eM (by omega)]
theorem VI{o:aC}(hk:o.kind=2)(hi:o.i=0):ie o=some o.b:=by
 unfold ie;rw[fh (by rw[hk];decide),fQ hi]
theorem VJ{o:aC}(hk:o.kind=2)(hi:o.i=1)(h:o.b<o.t):ie o=some o.t:=by
 unfold ie;rw[fh (by rw[hk];decide),fh (by rw[hi];decide),fQ (by omega)]
theorem VK{o:aC}(hk:o.kind=2)(hi:o.i=1)(h:o.t≤o.b)(hb:-4000000000000≤o.t∧o.t≤4000000000000):ie o=some (o.t+1):=by
 unfold ie;rw[fh (by rw[hk];decide),fh (by rw[hi];decide),fh (by omega),eM (by omega)]
section
variable {o:aC}{v:Int}
theorem VL(ha:o.ag=1)(hv:-4000000000000≤v∧v≤4000000000000):dW o v=some {o with ag:=3,b:=v-1}:=by
 unfold dW;rw[fQ ha,eM (by omega)]
theorem VM(ha:o.ag=3):dW o v=some {o with ag:=11,a:=v}:=by
 unfold dW;rw[fh (by rw[ha];decide),fQ ha]
theorem IJ(ha:o.ag=11):dW o v=if o.i=0 then some {o with ag:=2}else if o.wG=true then some {o with ag:=0,code:=4,value:=o.x}else some {o with ag:=0,code:=5,value:=0}:=by
 unfold dW dL;rw[fh (by rw[ha];decide),fh (by rw[ha];decide),fQ ha];rfl
theorem VN(ha:o.ag=2):dW o v=if v>o.b then some {o with ag:=11,t:=v,i:=1}else some {o with ag:=4,t:=v,i:=1}:=by
 unfold dW;rw[fh (by rw[ha];decide),fh (by rw[ha];decide),fh (by rw[ha];decide),fQ ha]
theorem VO(ha:o.ag=4)(hv:1≤v):dW o v=some {o with ag:=12,c:=v}:=by
 unfold dW;rw[fh (by rw[ha];decide),fh (by rw[ha];decide),fh (by rw[ha];decide),fh (by rw[ha];decide),fQ ha,fh (by omega)]
theorem Sr(ha:o.ag=12):dW o v=if o.t<o.b then some {o with ag:=0,x:=v,code:=4,value:=v}else some {o with ag:=13,x:=v}:=by
 unfold dW dL;rw[fh (by rw[ha];decide),fh (by rw[ha];decide),fh (by rw[ha];decide),fh (by rw[ha];decide),fh (by rw[ha];decide),fQ ha];rfl
theorem Ss(ha:o.ag=13):dW o v=some {o with ag:=11,wG:=v==1}:=by
 unfold dW;rw[fh (by rw[ha];decide),fh (by rw[ha];decide),fh (by rw[ha];decide),fh (by rw[ha];decide),fh (by rw[ha];decide),fh (by rw[ha];decide),fQ ha]
theorem VP(ha:o.ag=2):eX o v=some {o with ag:=1,t:=v}:=by unfold eX;rw[fQ ha]
theorem VQ(ha:o.ag=1):eX o v=if o.t≥v then some {o with ag:=0,b:=v,code:=5,value:=0}else some {o with ag:=3,b:=v}:=by
 unfold eX dL;rw[fh (by rw[ha];decide),fQ ha];rfl
theorem VR(ha:o.ag=3):eX o v=some {o with ag:=4,a:=v}:=by
 unfold eX;rw[fh (by rw[ha];decide),fh (by rw[ha];decide),fQ ha]
theorem VS(ha:o.ag=4)(hv:1≤v):eX o v=some {o with ag:=12,c:=v}:=by
 unfold eX;rw[fh (by rw[ha];decide),fh (by rw[ha];decide),fh (by rw[ha];decide),fQ ha,fh (by omega)]
theorem Su(ha:o.ag=12):eX o v=some {o with ag:=13,x:=v}:=by
 unfold eX;rw[fh (by rw[ha];decide),fh (by rw[ha];decide),fh (by rw[ha];decide),fh (by rw[ha];decide),fQ ha]
theorem Sv(ha:o.ag=13):eX o v=if v=1 then some {o with ag:=0,code:=4,value:=o.x}else some {o with ag:=0,code:=6,value:=0}:=by
 unfold eX dL;rw[fh (by rw[ha];decide),fh (by rw[ha];decide),fh (by rw[ha];decide),fh (by rw[ha];decide),fh (by rw[ha];decide),fQ ha];rfl
end
section
variable {K:Nat}{C:Am.k8}{p:aO}{s:Am.St}{S:ai}{M M':ah}{sz n i:Nat}{D:aF}{d:Int}{o':aC}
theorem uB.PJ(b:uB C p s S M sz n)(hi:i<C.N):rz (⟨S.bC,S.aK⟩:dm) (i:Int)=some (⟨2+10*(C.F:Int),C.N,i,2,8,1,0,0,0,List.replicate 64 ⟨0,0⟩,⟨0,0,0,0,0,0,0,0,0,0,0,0,0,false,0,0⟩⟩:bu):=by
 have h1:=b.ok.n1;have h2:=b.ok.n64
 unfold rz kr mu
 rw[b.iS.lb,b.iS.lw]
 simp only
 rw[fh (by omega),fh (by omega),aE,eM (x:=2+(C.N:Int)) (by omega),fQ (by omega),fQ (by omega),decide_eq_true (by omega),aE,fQ rfl]
def VT(C:Am.k8)(i:Nat):bu:=⟨2+10*(C.F:Int),C.N,i,2,8,1,0,0,0,List.replicate 64 ⟨0,0⟩,⟨0,0,0,0,0,0,0,0,0,0,0,0,0,false,0,0⟩⟩
variable (b:uB C p s S M sz n)(hi:i<C.N)
include b hi
theorem Lh{c:Nat}(hc:(act S i).bM=c)(hg:(Am.view s).g i= .push c)(h1:eG M (act S i).aX=some (o',M'))(h2:o'.kind=1)(h3:o'.ag=0)(h4:o'.code=2){f:Nat}(hf:(act S i).aj=f) :
 bX S M (i:Int) D=some (xR (Am.ev 2 c f (s.fr c).nr),fF S i {act S i with aX:=o',bS:=VT C i,aH:=4},M'):=by
 have hcn:=CV b hi hg
 have hin:bT (act S i).bM S.ak.length:=by rw[hc];exact b.task hcn
 have hw:=b.wl hi
 have BF:=(b.iS.wk i hi).self
 have ht:=(b.iS.tk c hcn).nr
 have hwk:=b.PJ hi
 unfold bX dz
 rw[Int.toNat_natCast,fQ hin,ia,fQ hin,rM h1 (IA (by rw[h2];decide) h3),fz,h4,fh (by decide),fh (by decide),fQ rfl,fQ (by rw[iN];exact b.wh hi)]
 rw[show ag (fF S i {act S i with aX:=o' }).ae i={act S i with aX:=o' }from lu hw]
 have ZZ:rz (⟨S.bC,S.aK⟩:dm) (act S i).bj=some (VT C i):=by rw[show(act S i).bj=i from BF];exact hwk
 show eL (rz (⟨S.bC,S.aK⟩:dm) (act S i).bj) _=_
 rw[ZZ,aE]
 show some ((⟨0,0,2,(act S i).bM,(act S i).aj,(ag S.ak (act S i).bM.toNat).nr⟩:aD),({S with ae:=((S.ae.set i _).set i _).set i _}:ai),M')=_
 rw[List.set_set,List.set_set,hf,hc,Int.toNat_natCast,ht];rfl
theorem IK{c:Nat}{bb:Int}(hp:s.pc i= .oC c bb):iB C p sz n M (Am.step C s i d) (bX S M (i:Int) D):=by
 obtain⟨w1,w2,w3⟩:=b.iS.wk i hi
 rw[hp]at w3
 obtain⟨a1,a2,⟨o1,o2,o3,o4⟩,a4⟩:=w3
 have r1:=b.E8 (i:=i) (x:=bb) (by rw[hp];simp[Am.fM])
 have hg:(Am.view s).g i= .push c:=by show Am.sig (s.pc i)=_;rw[hp];rfl
 obtain⟨f,hh⟩:=Am.rK b.fi hi (by rw[hp];rfl)
 have hac:=vC b.ar b.z b.cN hi o2 o3 (VH o1 (by rw[a4];omega))
 rw[a4]at hac
 have hs:=nl o1 o2 (by decide) (by decide) hac (o':={(act S i).aX with ag:=0,code:=2,value:=0}) (by
  rw[fQ rfl];unfold dV dL
  rw[fh (by rw[o2];decide),fh (by rw[o2];decide),fh (by rw[o2];decide),fh (by rw[o2];decide),fh (by rw[o2];decide),fh (by rw[o2];decide),fh (by rw[o2];decide),fh (by rw[o2];decide),fh (by rw[o2];decide),fh (by rw[o2];decide),fQ o2];rfl)
 unfold Am.step;rw[hp];simp only[hh,Option.getD_some]
 exact .mk b hi (Lh b hi a2 hg hs o1 rfl rfl (f:=f) (by rw[show(act S i).aj=fi (s.hold i)from w2,hh];rfl)) w1 w2 rfl ⟨rfl,rfl,rfl,rfl,rfl,rfl,rfl⟩ (b.wc (c:=.bot i) rfl (by rw[hp];rfl) hi _ _ _ _ _) (Lg.nt rfl) (by show(2:Nat)≠0;decide)
theorem rN(h1:eG M (act S i).aX=some (o',M'))(h2:o'.kind=2)(h3:o'.ag≠0):cw S M (i:Int) D=some (xR none,fF S i {act S i with aX:=o' },M'):=by
 unfold cw
 rw[rM h1 (GO (by rw[h2];decide) h3),fz,fQ rfl];rfl
theorem JV(h1:eG M (act S i).aX=some (o',M'))(h2:o'.kind=2)(h3:o'.ag=0)(h4:o'.code=4) :
 cw S M (i:Int) D=some (xR none,fF S i {act S i with aX:=o',aj:=o'.value,from_:=-1,aH:=0},M'):=by
 have hw:=b.wl hi
 unfold cw
 rw[rM h1 (IA (by rw[h2];decide) h3),fz,h4,fh (by decide),fQ rfl,fQ (by rw[iN];exact b.wh hi),Int.toNat_natCast]
 rw[show ag (fF S i {act S i with aX:=o' }).ae i={act S i with aX:=o' }from lu hw]
 show some (_,({S with ae:=(((S.ae.set i _).set i _).set i _).set i _}:ai),M')=_
 rw[List.set_set,List.set_set,List.set_set];rfl
theorem pop_empty(h1:eG M (act S i).aX=some (o',M'))(h2:o'.kind=2)(h3:o'.ag=0)(h4:o'.code=5) :
 cw S M (i:Int) D=some (xR none,fF S i {act S i with aX:=o',tries:=0,aH:=9},M'):=by
 have hw:=b.wl hi
 unfold cw
 rw[rM h1 (IA (by rw[h2];decide) h3),fz,h4,fh (by decide),fh (by decide),fQ rfl,fQ (by rw[iN];exact b.wh hi),Int.toNat_natCast]
 rw[show ag (fF S i {act S i with aX:=o' }).ae i={act S i with aX:=o' }from lu hw]
 show some (_,({S with ae:=((S.ae.set i _).set i _).set i _}:ai),M')=_
 rw[List.set_set,List.set_set];rfl
theorem PK(hp:s.pc i= .CR):iB C p sz n M (Am.step C s i d) (cw S M (i:Int) D):=by
 obtain⟨w1,w2,w3⟩:=b.iS.wk i hi
 rw[hp]at w3
 obtain⟨a1,⟨o1,o2,o3,o4⟩,a3,a4⟩:=w3
 have r:=b.GL (a:=.bot i) rfl
 have hs:=nl o1 o2 (by decide) (by decide) (Bz b.ar b.z b.cN hi o2 o3) (by rw[fh (by decide),fQ rfl];exact VL o2 (by omega))
 unfold Am.step;rw[hp];simp only
 exact .mk b hi (rN b hi hs o1 (by show(3:Int)≠0;decide)) w1 w2 rfl ⟨a1,⟨o1,rfl,o3,o4⟩,a3,a4,rfl⟩ (b.uE rfl (by rw[hp];rfl) _ _ _ _ _) (Lg.nt rfl) trivial
theorem Li{bb:Int}(hp:s.pc i= .tH bb):iB C p sz n M (Am.step C s i d) (cw S M (i:Int) D):=by
 obtain⟨w1,w2,w3⟩:=b.iS.wk i hi
 rw[hp]at w3
 obtain⟨a1,⟨o1,o2,o3,o4⟩,a3,a4,a5⟩:=w3
 have hs:=nl o1 o2 (by decide) (by decide) (Fc b.ar b.z b.cN hi o2 o3) (by rw[fh (by decide),fQ rfl];exact VM o2)
 unfold Am.step;rw[hp];simp only
 exact .mk b hi (rN b hi hs o1 (by show(11:Int)≠0;decide)) w1 w2 rfl ⟨a1,⟨o1,rfl,o3,o4⟩,a3,a4,a5,(b.dt.1 i hi).AE⟩ (b.uE rfl (by rw[hp];rfl) _ _ _ _ _) (Lg.nt rfl) trivial
theorem GV{bb:Int}(hp:s.pc i= .og bb):iB C p sz n M (Am.step C s i d) (cw S M (i:Int) D):=by
 obtain⟨w1,w2,w3⟩:=b.iS.wk i hi
 rw[hp]at w3
 obtain⟨a1,⟨o1,o2,o3,o4⟩,a3,a4,a5,a6⟩:=w3
 have hac:=vC b.ar b.z b.cN hi o2 o3 (VI o1 a3)
 rw[a5]at hac
 have hs:=nl o1 o2 (by decide) (by decide) hac (by rw[fh (by decide),fQ rfl,IJ o2,fQ a3])
 unfold Am.step;rw[hp];simp only
 exact .mk b hi (rN b hi hs o1 (by show(2:Int)≠0;decide)) w1 w2 rfl ⟨a1,⟨o1,rfl,o3,o4⟩,a5,a6,a4⟩ (b.wc (c:=.bot i) rfl (by rw[hp];rfl) hi _ _ _ _ _) (Lg.nt rfl) trivial
theorem PL{bb:Int}(hp:s.pc i= .AB bb):iB C p sz n M (Am.step C s i d) (cw S M (i:Int) D):=by
 obtain⟨w1,w2,w3⟩:=b.iS.wk i hi
 rw[hp]at w3
 obtain⟨a1,⟨o1,o2,o3,o4⟩,a5,a6,a4⟩:=w3
 have hac:=BA b.ar b.z b.cN hi o2 o3
 have hs:=λo' h=>nl o1 o2 (by decide) (by decide) hac (o':=o') (by rw[fh (by decide),fQ rfl];exact h)
 have e:=VN o2 (v:=s.mem (.top i))
 unfold Am.step;rw[hp];simp only
 by_cases h1:s.mem (.top i)<bb
 ·rw[fQ h1];rw[fh (by rw[a5];omega)]at e
  exact .mk b hi (rN b hi (hs _ e) o1 (by show(4:Int)≠0;decide)) w1 w2 rfl ⟨a1,⟨o1,rfl,o3,o4⟩,rfl,a5,rfl,a6⟩ (b.uE rfl (by rw[hp];rfl) _ _ _ _ _) (Lg.nt rfl) trivial
 ·rw[fh h1]
  by_cases h2:s.mem (.top i)=bb
  ·rw[fQ h2];rw[fh (by rw[a5];omega)]at e
   exact .mk b hi (rN b hi (hs _ e) o1 (by show(4:Int)≠0;decide)) w1 w2 rfl ⟨a1,⟨o1,rfl,o3,o4⟩,rfl,a5,rfl,a6⟩ (b.uE rfl (by rw[hp];rfl) _ _ _ _ _) (Lg.nt rfl) trivial
  ·rw[fh h2];rw[fQ (by rw[a5];omega)]at e
   exact .mk b hi (rN b hi (hs _ e) o1 (by show(11:Int)≠0;decide)) w1 w2 rfl ⟨a1,⟨o1,rfl,o3,o4⟩,rfl,rfl,by show(act S i).aX.b<_;rw[show(act S i).aX.b=bb from a5];omega,a4⟩ (b.uE rfl (by rw[hp];rfl) _ _ _ _ _) (Lg.nt rfl) trivial
theorem zG{tr cj:Nat}{bs:Nat→Nat→Int}{a:bB}(h1:a.aH=9)(h2:a.tries=0)(h3:tr=0):ph C i (if C.N=1 then .flag else .oa) tr cj bs a:=by
 by_cases e:C.N=1
 ·rw[fQ e];exact .inl ⟨h1,e⟩
 ·rw[fh e];exact⟨h1,by rw[h2,h3];rfl,by omega⟩
theorem zH{q:Am.Pc}(h:Am.jC q=false):Am.jC (if C.N=1 then .flag else .oa)=Am.jC q:=by rw[h];split<;>rfl
theorem GW{t:Int}(hp:s.pc i= .nQ t):iB C p sz n M (Am.step C s i d) (cw S M (i:Int) D):=by
 obtain⟨w1,w2,w3⟩:=b.iS.wk i hi
 rw[hp]at w3
 obtain⟨a1,⟨o1,o2,o3,o4⟩,a3,a5,a6,a4⟩:=w3
 have hac:=vC b.ar b.z b.cN hi o2 o3 (VJ o1 a3 (by rw[a5];exact a6))
 rw[a5]at hac
 have hs:=nl o1 o2 (by decide) (by decide) hac (by rw[fh (by decide),fQ rfl,IJ o2,fh (by rw[a3];decide),fh (by rw[a4];decide)])
 unfold Am.step;rw[hp];simp only
 exact .mk b hi (pop_empty b hi hs o1 rfl rfl) w1 w2 rfl (zG b hi rfl rfl (Am.bQ _ _ _)) (b.wc (c:=.bot i) rfl (by rw[hp];exact zH b hi rfl) hi _ _ _ _ _) (Lg.nt rfl) trivial (Le:=λj hj=>Am.bA hj)
theorem Lj{bb t:Int}(hp:s.pc i= .sA bb t):iB C p sz n M (Am.step C s i d) (cw S M (i:Int) D):=by
 obtain⟨w1,w2,w3⟩:=b.iS.wk i hi
 rw[hp]at w3
 obtain⟨a1,⟨o1,o2,o3,o4⟩,a3,a4,a5,a6⟩:=w3
 obtain⟨c0,c1,c2,c3⟩:=QU b hi
 have hs:=nl o1 o2 (by decide) (by decide) (Fe b.ar b.z b.cN hi (xd s i) o2 a6) (by rw[fh (by decide),fQ rfl];exact VO o2 c1)
 unfold Am.step;rw[hp];simp only
 exact .mk b hi (rN b hi hs o1 (by show(12:Int)≠0;decide)) w1 w2 rfl ⟨a1,⟨o1,rfl,o3,o4⟩,a3,a4,a5,a6,rfl⟩ (b.uE rfl (by rw[hp];rfl) _ _ _ _ _) (Lg.nt rfl) trivial
theorem IL{bb t cc:Int}(hp:s.pc i= .oR bb t cc):iB C p sz n M (Am.step C s i d) (cw S M (i:Int) D):=by
 obtain⟨w1,w2,w3⟩:=b.iS.wk i hi
 rw[hp]at w3
 obtain⟨a1,⟨o1,o2,o3,o4⟩,a3,a4,a5,a6,a7⟩:=w3
 have P:=(b.dt.1 i hi).ph
 unfold Am.n3 at P;rw[hp]at P;simp only at P
 have LH:cc=Am.qY C (s.cur i):=P.2.trans (Am.AH b.z hi)
 have r1:=b.E8 (i:=i) (x:=bb) (by rw[hp];simp[Am.fM])
 have hac:=GP (x:=bb) b.ar b.z b.ok b.cN hi (xd s i) o2 a6 (by rw[a7];exact LH) (by rw[fQ o1];exact a4.symm) r1
 rw[a7]at hac
 have hs:=λo' h=>nl o1 o2 (by decide) (by decide) hac (o':=o') (by rw[fh (by decide),fQ rfl];exact h)
 have e:=Sr o2 (v:=s.mem (.el i (s.cur i) (Am.ix bb cc)))
 unfold Am.step;rw[hp];simp only
 by_cases h1:t<bb
 ·rw[fQ h1];rw[fQ (by rw[a4,a5];exact h1)]at e
  obtain⟨x,hx,he⟩:=(P.1.2.2.2.1 h1).2.2
  rw[←P.2]at he
  have hn:fi (some (s.mem (.el i (s.cur i) (Am.ix bb cc))).toNat)=s.mem (.el i (s.cur i) (Am.ix bb cc)):=by rw[he];rfl
  exact .mk b hi (JV b hi (hs _ e) o1 rfl rfl) w1 (by show s.mem _=fi (Am.fE s.hold i _ i);rw[Am.bQ];exact hn.symm) rfl ⟨rfl,rfl⟩ (b.uE rfl (by rw[hp];rfl) _ _ _ _ _) (Lg.nt rfl) trivial (hh:=λj hj=>Am.bA hj)
 ·rw[fh h1];rw[fh (by rw[a4,a5];exact h1)]at e
  exact .mk b hi (rN b hi (hs _ e) o1 (by show(13:Int)≠0;decide)) w1 w2 rfl ⟨a1,⟨o1,rfl,o3,o4⟩,a3,a4,a5,rfl⟩ (b.uE rfl (by rw[hp];rfl) _ _ _ _ _) (Lg.nt rfl) trivial
theorem Ll{bb t x:Int}(hp:s.pc i= .rC bb t x):iB C p sz n M (Am.step C s i d) (cw S M (i:Int) D):=by
 obtain⟨w1,w2,w3⟩:=b.iS.wk i hi
 rw[hp]at w3
 obtain⟨a1,⟨o1,o2,o3,o4⟩,a3,a4,a5,a6⟩:=w3
 have P:=(b.dt.1 i hi).ph
 unfold Am.n3 at P;rw[hp]at P;simp only at P
 have r1:=b.E8 (i:=i) (x:=t) (by rw[hp];simp[Am.fM])
 have hac:=JU b.ar b.z b.cN hi o2 o3 (by rw[a5];exact r1)
 rw[a5]at hac
 have hs:=nl o1 o2 (by decide) (by decide) hac (by rw[fh (by decide),fQ rfl];exact Ss o2)
 have htb:t≤(act S i).aX.b:=by rw[show(act S i).aX.b=bb from a4];omega
 unfold Am.step;rw[hp];simp only
 by_cases h1:s.mem (.top i)=t
 ·rw[fQ h1];rw[fQ h1,fQ h1]at hs
  exact .mk b hi (rN b hi hs o1 (by show(11:Int)≠0;decide)) w1 w2 rfl ⟨a1,⟨o1,rfl,o3,o4⟩,a3,a5,htb,a6,rfl⟩ (b.wc (c:=.top i) rfl (by rw[hp];rfl) hi _ _ _ _ _) (by rw[show(s.mem (.top i)==t)=true by rw[h1];simp];exact Lg.nt rfl) trivial
 ·rw[fh h1];rw[fh h1,fh h1]at hs
  exact .mk b hi (rN b hi hs o1 (by show(11:Int)≠0;decide)) w1 w2 rfl ⟨a1,⟨o1,rfl,o3,o4⟩,a3,a5,htb,a6,rfl⟩ (b.uE rfl (by rw[hp];rfl) _ _ _ _ _) (by rw[show(s.mem (.top i)==t)=false by simpa using h1];exact Lg.nt rfl) trivial
theorem Lm{t x:Int}{wG:Bool}(hp:s.pc i= .pR t x wG):iB C p sz n M (Am.step C s i d) (cw S M (i:Int) D):=by
 obtain⟨w1,w2,w3⟩:=b.iS.wk i hi
 rw[hp]at w3
 obtain⟨a1,⟨o1,o2,o3,o4⟩,a3,a5,a8,a6,a7⟩:=w3
 have P:=(b.dt.1 i hi).ph
 unfold Am.n3 at P;rw[hp]at P;simp only at P
 have r1:=b.E8 (i:=i) (x:=t) (by rw[hp];simp[Am.fM])
 have hac:=vC b.ar b.z b.cN hi o2 o3 (VK o1 a3 (by rw[a5];exact a8) (by rw[a5];omega))
 rw[a5]at hac
 have e:=IJ o2 (v:=0)
 rw[fh (by rw[a3];decide)]at e
 have hs:=λo' h=>nl o1 o2 (by decide) (by decide) hac (o':=o') (by rw[fh (by decide),fQ rfl];exact h)
 unfold Am.step;rw[hp];simp only
 cases wG with
 | true =>
  rw[fQ a7]at e
  have hx:=(P.2.2.2 rfl).2
  have hn:fi (some x.toNat)=x:=by show((x.toNat:Nat):Int)=x;omega
  exact .mk b hi (JV b hi (hs _ e) o1 rfl rfl) w1 (by show(act S i).aX.x=fi (Am.fE s.hold i _ i);rw[Am.bQ,show(act S i).aX.x=x from a6];exact hn.symm) rfl ⟨rfl,rfl⟩ (b.wc (c:=.bot i) rfl (by rw[hp];rfl) hi _ _ _ _ _) (Lg.nt rfl) trivial (hh:=λj hj=>Am.bA hj) (Le:=λj hj=>Am.bA hj)
 | false =>
  rw[fh (by rw[a7];decide)]at e
  exact .mk b hi (pop_empty b hi (hs _ e) o1 rfl rfl) w1 w2 rfl (zG b hi rfl rfl (Am.bQ _ _ _)) (b.wc (c:=.bot i) rfl (by rw[hp];exact zH b hi rfl) hi _ _ _ _ _) (Lg.nt rfl) trivial (Le:=λj hj=>Am.bA hj)
end
end Mo
end
section
namespace Mo
open Go SL GX
theorem Ny{x n:Int}(h1:1≤n)(h2:n≤1000):xo x n=some (x%n):=by
 have e1:=Int.emod_nonneg x (b:=n) (by omega)
 have e2:=Int.emod_lt_of_pos x (show 0<n by omega)
 have e4:x.tmod n=if 0≤x∨n∣x then x%n else x%n-n:=by
  rw[Int.tmod_eq_emod];split
  ·omega
  ·rw[show((n.natAbs:Nat):Int)=n by omega]
 unfold xo
 rw[fh (by omega),fQ (by omega),e4]
 by_cases h:0≤x∨n∣x
 ·rw[fQ h,fh (by omega)]
 ·rw[fh h,fQ (by omega),eM (by omega)];congr 1;omega
def Sw(C:Am.k8):bu:=⟨2+10*(C.F:Int),C.N,0,3,3,0,0,0,0,List.replicate 64 ⟨0,0⟩,⟨0,0,0,0,0,0,0,0,0,0,0,0,0,false,0,0⟩⟩
def zI(C:Am.k8)(k a:Int)(v:Nat)(x:Int):aC:=⟨k,a,Am.sD C v,C.most,x,0,0,0,0,0,0,0,0,false,0,0⟩
section
variable {K:Nat}{C:Am.k8}{p:aO}{s:Am.St}{S:ai}{M M':ah}{sz n i:Nat}{D:aF}{d:Int}{o':aC}
variable (b:uB C p s S M sz n)(hi:i<C.N)
include b
theorem xe(k a:Int)(v:Nat)(x:Int):lT k a (GN C v) x=some (zI C k a v x):=by
 have h1:=b.ok.c1;have h2:=b.ok.cm;have h3:=b.ok.m4
 unfold lT GN
 simp only
 rw[fh (by omega),fh (by omega)];rfl
theorem PM:td (⟨S.bC,S.aK⟩:dm)=some (Sw C):=by
 have h1:=b.ok.n1;have h2:=b.ok.n64
 unfold td mu
 rw[b.iS.lb,b.iS.lw]
 simp only
 rw[fh (by omega),fh (by omega),aE,eM (x:=2+(C.N:Int)) (by omega),fh (by omega)];rfl
include hi
theorem xq(h1:eG M (act S i).aX=some (o',M'))(h2:o'.kind=3)(h3:o'.ag≠0):cn S M (i:Int) D=some (xR none,fF S i {act S i with aX:=o' },M'):=by
 unfold cn
 rw[rM h1 (GO (by rw[h2];decide) h3),fz,fQ rfl];rfl
theorem Ln(h1:eG M (act S i).aX=some (o',M'))(h2:o'.kind=3)(h3:o'.ag=0)(h4:o'.code=4){v:Nat}(hv:(act S i).dB=v) :
 cn S M (i:Int) D=some (xR (Am.ev 8 o'.value v 0),fF S i {act S i with aX:=o',aj:=o'.value,from_:=(v:Int),aH:=0},M'):=by
 have hw:=b.wl hi
 unfold cn
 rw[rM h1 (IA (by rw[h2];decide) h3),fz,h4,fh (by decide),fQ rfl,fQ (by rw[iN];exact b.wh hi),Int.toNat_natCast]
 rw[show ag (fF S i {act S i with aX:=o' }).ae i={act S i with aX:=o' }from lu hw]
 show some ((⟨0,0,8,o'.value,(act S i).dB,0⟩:aD),({S with ae:=(((S.ae.set i _).set i _).set i {act S i with aX:=o',aj:=o'.value,from_:=(act S i).dB}).set i {act S i with aX:=o',aj:=o'.value,from_:=(act S i).dB,aH:=0}}:ai),M')=_
 rw[List.set_set,List.set_set,List.set_set,hv];rfl
theorem CW(h1:eG M (act S i).aX=some (o',M'))(h2:o'.kind=3)(h3:o'.ag=0)(h4:o'.code=5∨o'.code=6){t:Nat}(ht:(act S i).tries=t∧t<3) :
 cn S M (i:Int) D=some (xR none,fF S i {act S i with aX:=o',tries:=(t:Int)+1,bS:=Sw C,aH:=11},M'):=by
 have hw:=b.wl hi
 have hpk:=PM b
 unfold cn
 have hc:(if o'.code=5 then some (o'.code==5)else some (o'.code==6))=some true:=by
  rcases h4 with h | h
  ·rw[fQ h,h];rfl
  ·rw[fh (by rw[h];decide),h];rfl
 rw[rM h1 (IA (by rw[h2];decide) h3),fz,fh (by rcases h4 with h | h<;>rw[h]<;>decide),fh (by rcases h4 with h | h<;>rw[h]<;>decide),hc,aE,fQ rfl,fQ (by rw[iN];exact b.wh hi),Int.toNat_natCast]
 rw[show ag (fF S i {act S i with aX:=o' }).ae i={act S i with aX:=o' }from lu hw]
 show eL (td (⟨S.bC,S.aK⟩:dm)) _=_
 rw[hpk,aE]
 show some (_,({S with ae:=(((S.ae.set i _).set i _).set i _).set i {act S i with aX:=o',tries:=wi ((act S i).tries+1),bS:=Sw C,aH:=11}}:ai),M')=_
 rw[List.set_set,List.set_set,List.set_set,ht.1,eM (by omega)];rfl
theorem Lo{v:Nat}{t:Int}(hp:s.pc i= .sB v t):iB C p sz n M (Am.step C s i d) (cn S M (i:Int) D):=by
 obtain⟨w1,w2,w3⟩:=b.iS.wk i hi
 rw[hp]at w3
 obtain⟨a1,a2,a3,⟨o1,o2,o3,o4⟩,a4⟩:=w3
 have T:=b.dt.2 i hi
 unfold Am.Th at T;rw[hp]at T;simp only at T
 have hac:=Bz b.ar b.z b.cN T.1 o2 o3
 have hs:=λo' h=>nl o1 o2 (by decide) (by decide) hac (o':=o') (by rw[fh (by decide),fh (by decide),fQ rfl];exact h)
 have e:=VQ o2 (v:=s.mem (.bot v))
 unfold Am.step;rw[hp];simp only
 by_cases h1:s.mem (.bot v)≤t
 ·rw[fQ h1];rw[fQ (by rw[a4];exact h1)]at e
  exact .mk b hi (CW b hi (hs _ e) o1 rfl (.inl rfl) a2) w1 w2 rfl ⟨rfl,by show(_:Int)=((Am.fE s.tries i (s.tries i+1) i:Nat):Int);rw[Am.bQ];rfl,rfl,rfl,rfl,rfl⟩ (b.uE rfl (by rw[hp];rfl) _ _ _ _ _) (Lg.nt rfl) trivial (Le:=λj hj=>Am.bA hj)
 ·rw[fh h1];rw[fh (by rw[a4];exact h1)]at e
  exact .mk b hi (xq b hi (hs _ e) o1 (by show(3:Int)≠0;decide)) w1 w2 rfl ⟨a1,a2,a3,⟨o1,rfl,o3,o4⟩,a4⟩ (b.uE rfl (by rw[hp];rfl) _ _ _ _ _) (Lg.nt rfl) trivial
theorem GY{v:Nat}{t:Int}(hp:s.pc i= .oh v t):iB C p sz n M (Am.step C s i d) (cn S M (i:Int) D):=by
 obtain⟨w1,w2,w3⟩:=b.iS.wk i hi
 rw[hp]at w3
 obtain⟨a1,a2,a3,⟨o1,o2,o3,o4⟩,a4⟩:=w3
 have T:=b.dt.2 i hi
 unfold Am.Th at T;rw[hp]at T;simp only at T
 have hs:=nl o1 o2 (by decide) (by decide) (Fc b.ar b.z b.cN T.1 o2 o3) (by rw[fh (by decide),fh (by decide),fQ rfl];exact VR o2)
 unfold Am.step;rw[hp];simp only
 exact .mk b hi (xq b hi hs o1 (by show(4:Int)≠0;decide)) w1 w2 rfl ⟨a1,a2,a3,⟨o1,rfl,o3,o4⟩,a4,(b.dt.1 v T.1).AE⟩ (b.uE rfl (by rw[hp];rfl) _ _ _ _ _) (Lg.nt rfl) trivial
theorem GZ{v g:Nat}{t:Int}(hp:s.pc i= .nR v t g):iB C p sz n M (Am.step C s i d) (cn S M (i:Int) D):=by
 obtain⟨w1,w2,w3⟩:=b.iS.wk i hi
 rw[hp]at w3
 obtain⟨a1,a2,a3,⟨o1,o2,o3,o4⟩,a4,a5⟩:=w3
 have T:=b.dt.2 i hi
 unfold Am.Th at T;rw[hp]at T;simp only at T
 have hg:=Nat.le_trans T.2.2.2.1 (xd s v)
 have h1:=(b.dt.1 v T.1).vx g T.2.2.2.1
 have hs:=nl o1 o2 (by decide) (by decide) (Fe b.ar b.z b.cN T.1 hg o2 a5) (by rw[fh (by decide),fh (by decide),fQ rfl];exact VS o2 h1)
 unfold Am.step;rw[hp];simp only
 exact .mk b hi (xq b hi hs o1 (by show(12:Int)≠0;decide)) w1 w2 rfl ⟨a1,a2,a3,⟨o1,rfl,o3,o4⟩,a4,a5,rfl⟩ (b.uE rfl (by rw[hp];rfl) _ _ _ _ _) (Lg.nt rfl) trivial
theorem Fi{v g:Nat}{t cc:Int}(hp:s.pc i= .me v t g cc):iB C p sz n M (Am.step C s i d) (cn S M (i:Int) D):=by
 obtain⟨w1,w2,w3⟩:=b.iS.wk i hi
 rw[hp]at w3
 obtain⟨a1,a2,a3,⟨o1,o2,o3,o4⟩,a4,a5,a6⟩:=w3
 have T:=b.dt.2 i hi
 unfold Am.Th at T;rw[hp]at T;simp only at T
 have hg:=Nat.le_trans T.2.2.2.1 (xd s v)
 have LH:cc=Am.qY C g:=T.2.2.2.2.1.trans (b.z.cap v T.1 g T.2.2.2.1)
 have r1:=b.E8 (i:=i) (x:=t) (by rw[hp];simp[Am.fM])
 have hac:=GP (x:=t) b.ar b.z b.ok b.cN T.1 hg o2 a5 (by rw[a6];exact LH) (by rw[fh (by rw[o1];decide)];exact a4.symm) r1
 rw[a6]at hac
 have hs:=nl o1 o2 (by decide) (by decide) hac (by rw[fh (by decide),fh (by decide),fQ rfl];exact Su o2)
 unfold Am.step;rw[hp];simp only
 exact .mk b hi (xq b hi hs o1 (by show(13:Int)≠0;decide)) w1 w2 rfl ⟨a1,a2,a3,⟨o1,rfl,o3,o4⟩,a4,rfl⟩ (b.uE rfl (by rw[hp];rfl) _ _ _ _ _) (Lg.nt rfl) trivial
theorem G0{v:Nat}{t x:Int}(hp:s.pc i= .nj v t x):iB C p sz n M (Am.step C s i d) (cn S M (i:Int) D):=by
 obtain⟨w1,w2,w3⟩:=b.iS.wk i hi
 rw[hp]at w3
 obtain⟨a1,a2,a3,⟨o1,o2,o3,o4⟩,a4,a5⟩:=w3
 have T:=b.dt.2 i hi
 unfold Am.Th at T;rw[hp]at T;simp only at T
 have r1:=b.E8 (i:=i) (x:=t) (by rw[hp];simp[Am.fM])
 have hac:=JU b.ar b.z b.cN T.1 o2 o3 (by rw[a4];exact r1)
 rw[a4]at hac
 have hs:=λo' h=>nl o1 o2 (by decide) (by decide) hac (o':=o') (by rw[fh (by decide),fh (by decide),fQ rfl];exact h)
 have e:=Sv o2 (v:=if s.mem (.top v)=t then 1 else 0)
 unfold Am.step;rw[hp];simp only
 by_cases h1:s.mem (.top v)=t
 ·rw[fQ h1]at e hs;rw[fQ rfl]at e;rw[fQ h1]at hs;rw[fQ h1]
  obtain⟨y,l,hq,hx⟩:=T.2.2.2 h1.symm
  have hn:fi (some x.toNat)=x:=by rw[hx];rfl
  have ha:=Ln b hi (D:=D) (hs _ e) o1 rfl rfl a3
  simp only[a5]at ha
  exact .mk b hi ha w1 (by show x=fi (Am.fE s.hold i _ i);rw[Am.bQ];exact hn.symm) rfl ⟨rfl,rfl⟩ (b.wc (c:=.top v) rfl (by rw[hp];rfl) T.1 _ _ _ _ _) (by rw[show(s.mem (.top v)==t)=true by rw[h1];simp];exact Lg.nt rfl) (by show(8:Nat)≠0;decide) (hh:=λj hj=>Am.bA hj)
 ·rw[fh h1]at e hs;rw[fh (by decide)]at e;rw[fh h1]at hs;rw[fh h1]
  exact .mk b hi (CW b hi (hs _ e) o1 rfl (.inr rfl) a2) w1 w2 rfl ⟨rfl,by show(_:Int)=((Am.fE s.tries i (s.tries i+1) i:Nat):Int);rw[Am.bQ];rfl,rfl,rfl,rfl,rfl⟩ (b.uE rfl (by rw[hp];rfl) _ _ _ _ _) (by rw[show(s.mem (.top v)==t)=false by simpa using h1];exact Lg.nt rfl) trivial (Le:=λj hj=>Am.bA hj)
end
end Mo
end
section
namespace Mo
open Go SL GX
theorem xu{C:Am.k8}{i j k:Nat}(hi:i<C.N)(h:ring C i j k):(k+1=C.N∧Am.GG C j=i)∨(k+1<C.N∧Am.GG C j≠i∧ring C i (Am.GG C j) (k+1)):=by
 obtain⟨h1,h2,rfl⟩:=h
 have e:Am.GG C ((i+k)%C.N)=(i+(k+1))%C.N:=by unfold Am.GG;rw[Nat.mod_add_mod,Nat.add_assoc]
 rw[e]
 by_cases hk:k+1=C.N
 ·left;exact⟨hk,by rw[hk,Nat.add_mod_right,Nat.mod_eq_of_lt hi]⟩
 ·right
  refine⟨by omega,λh => ?_,by omega,by omega,rfl⟩
  rcases Nat.lt_or_ge (i+(k+1)) C.N with h' | h'
  ·rw[Nat.mod_eq_of_lt h']at h;omega
  ·rw[Nat.mod_eq_sub_mod h',Nat.mod_eq_of_lt (by omega)]at h;omega
theorem yC{C:Am.k8}{i:Nat}(hi:i<C.N):(C.N=1∧Am.GG C i=i)∨(1<C.N∧Am.GG C i≠i∧ring C i (Am.GG C i) 1):=by
 unfold Am.GG ring
 by_cases h:C.N=1
 ·left;refine⟨h,?_⟩;rw[h,Nat.mod_one];omega
 ·right
  refine⟨by omega,λh' => ?_,by omega,by omega,rfl⟩
  rcases Nat.lt_or_ge (i+1) C.N with e | e
  ·rw[Nat.mod_eq_of_lt e]at h';omega
  ·rw[Nat.mod_eq_sub_mod e,Nat.mod_eq_of_lt (by omega)]at h';omega
theorem zJ{C:Am.k8}{i j k:Nat}(h:ring C i j k):j<C.N:=by obtain⟨h1,h2,rfl⟩:=h;exact Nat.mod_lt _ (by omega)
section
variable {o o':bu}{M M':ah}{v:Int}
theorem u4{k a:Int}(hk:o.cP=k)(ha:o.aA=a)(RC:k≠0)(ha0:a≠0)(ha4:a≠4)(hx:bV o M=some (v,0,M'))
 (hn:(if k=1 then fq o v else if k=2 then gS o v else if k=3 then some {o with aA:=0,dy:=if v=1 then 17 else 16,eC:=0}else gq o v)=some o'):dM M o=some (o',M'):=by
 subst hk;subst ha
 unfold dM da
 rw[fh RC,fh ha0,eP,fh ha4,hx,cW,fQ rfl]
 split at hn
 ·rename_i h;rw[fQ h,hn,aE]
 ·rename_i h;rw[fh h]
  split at hn
  ·rename_i h;rw[fQ h,hn,aE]
  ·rename_i h;rw[fh h]
   split at hn
   ·rename_i h;rw[fQ h,aE]
    by_cases e:v=1
    ·rw[fQ e];rw[fQ e]at hn;cases hn;rfl
    ·rw[fh e];rw[fh e]at hn;cases hn;rfl
   ·rename_i h;rw[fh h,hn,aE]
theorem Sx(ha:o.aA=9){k:Int}(hk:wi (o.cK+1)=k):gS o v=if v=1 then some {o with aA:=7}else if k=o.bR then some {o with aA:=0,cK:=k,dy:=19,eC:=0}else some {o with cK:=k}:=by
 unfold gS da
 rw[fh (by rw[ha];decide),fQ ha,hk];rfl
theorem JW(hk:o.cP≠0)(ha:o.aA≠0):mZ o=some (0,0):=by
 unfold mZ;rw[fh hk,fh ha]
theorem G1(hk:o.cP≠0)(ha:o.aA=0):mZ o=some (o.dy,o.eC):=by
 unfold mZ;rw[fh hk,fQ ha]
end
section
variable {C:Am.k8}{s:Am.St}{M:ah}{sz n i:Nat}{o:bu}
theorem JX(h:AR C s M sz n)(hz:Am.SZ C s){j:Nat}(hj:j<C.N)(hb:o.bH=2+10*(C.F:Int)):ku o (j:Int)=some (Am.place C s (.flag j)):=by
 have p:=h.Py hz (a:=.flag j) hj
 have e:Am.place C s (.flag j)=2+10*(C.F:Int)+2+j:=by show(4:Int)+10*C.F+j=_;omega
 rw[e]at p
 unfold ku
 rw[hb,eM (x:=2+10*(C.F:Int)+2) (by omega),eM (by omega),e]
theorem Sy(h:AR C s M sz n)(hz:Am.SZ C s)(hb:o.bH=2+10*(C.F:Int)):wi (o.bH+0)=Am.place C s .qa:=by
 refine h.cast hz (a:=.qa) trivial ?_;rw[hb];show _=(2:Int)+10*C.F;omega
theorem VU(h:AR C s M sz n)(hz:Am.SZ C s)(hb:o.bH=2+10*(C.F:Int)):wi (o.bH+1)=Am.place C s .AA:=by
 refine h.cast hz (a:=.AA) trivial ?_;rw[hb];show _=(3:Int)+10*C.F;omega
theorem Fj{j k:Nat}(hi:i<C.N)(hN:C.N≤64)(hw:o.bR=C.N)(hs:o.fB=i)(hk:o.cK=k)(hr:ring C i j k):je o=some (j:Int):=by
 obtain⟨h1,h2,rfl⟩:=hr
 unfold je
 rw[hw,hs,hk,fQ (by omega),eM (by omega)]
 congr 1
theorem Z0(h:AR C s M sz n)(hz:Am.SZ C s)(hn:n≤2000000000)(hi:i<C.N)(hb:o.bH=2+10*(C.F:Int))(hs:o.fB=i)(ha:o.aA=1):bV o M=some (0,0,nt M (M.cell.set (Am.place C s (.flag i)).toNat 1) 1 (Am.place C s (.flag i)) 1 0 true):=by
 unfold bV
 rw[fQ ha,hs,JX h hz hi hb,aE,rL h hz hn (a:=.flag i) hi,ej]
theorem Z1(h:AR C s M sz n)(hz:Am.SZ C s)(hn:n≤2000000000)(hb:o.bH=2+10*(C.F:Int))(ha:o.aA=2)(hv:-1000000000000≤s.mem .qa∧s.mem .qa≤1000000000000):bV o M=some (s.mem .qa+1,0,nt M (M.cell.set (Am.place C s .qa).toNat (s.mem .qa+1)) 3 (Am.place C s .qa) 1 (s.mem .qa+1) true):=by
 unfold bV
 rw[fh (by rw[ha];decide),fQ ha,Sy h hz hb,D6 h hz hn (a:=.qa) trivial (eM (by omega)),cW]
theorem VV(h:AR C s M sz n)(hz:Am.SZ C s)(hn:n≤2000000000)(hb:o.bH=2+10*(C.F:Int))(ha:o.aA=3):bV o M=some (s.mem .AA,0,nt M M.cell 0 (Am.place C s .AA) (s.mem .AA) 0 true):=by
 unfold bV
 rw[fh (by rw[ha];decide),fh (by rw[ha];decide),fQ ha,VU h hz hb,uA h hz hn (a:=.AA) trivial,cW]
theorem Z2(h:AR C s M sz n)(hz:Am.SZ C s)(hn:n≤2000000000)(hi:i<C.N)(hb:o.bH=2+10*(C.F:Int))(hs:o.fB=i)(ha:o.aA=5):bV o M=some (s.mem (.flag i),0,nt M M.cell 0 (Am.place C s (.flag i)) (s.mem (.flag i)) 0 true):=by
 unfold bV
 rw[fh (by rw[ha];decide),fh (by rw[ha];decide),fh (by rw[ha];decide),fQ ha,hs,JX h hz hi hb,aE,uA h hz hn (a:=.flag i) hi,cW]
theorem Z3(h:AR C s M sz n)(hz:Am.SZ C s)(hn:n≤2000000000)(hi:i<C.N)(hb:o.bH=2+10*(C.F:Int))(hs:o.fB=i)(ha:o.aA=6):bV o M=some (if s.mem (.flag i)=1 then 1 else 0,0,nt M (if s.mem (.flag i)=1 then M.cell.set (Am.place C s (.flag i)).toNat 0 else M.cell) 2 (Am.place C s (.flag i)) 1 0 (s.mem (.flag i)==1)):=by
 unfold bV
 rw[fh (by rw[ha];decide),fh (by rw[ha];decide),fh (by rw[ha];decide),fh (by rw[ha];decide),fQ ha,hs,JX h hz hi hb,aE,Nr h hz hn (a:=.flag i) hi,cW]
 by_cases e:s.mem (.flag i)=1
 ·rw[fQ (by rw[e];rfl),fQ e,fQ e]
 ·rw[fh (by simpa using e),fh e,fh e]
theorem Sz(h:AR C s M sz n)(hz:Am.SZ C s)(hn:n≤2000000000)(hb:o.bH=2+10*(C.F:Int))(ha:o.aA=7)(hv:-1000000000000≤s.mem .qa∧s.mem .qa≤1000000000000):bV o M=some (s.mem .qa-1,0,nt M (M.cell.set (Am.place C s .qa).toNat (s.mem .qa-1)) 3 (Am.place C s .qa) (-1) (s.mem .qa-1) true):=by
 unfold bV
 rw[fh (by rw[ha];decide),fh (by rw[ha];decide),fh (by rw[ha];decide),fh (by rw[ha];decide),fh (by rw[ha];decide),fQ ha,Sy h hz hb,D6 h hz hn (a:=.qa) trivial (v:=s.mem .qa-1) (by rw[eM (by omega)];omega),cW]
theorem Z4(h:AR C s M sz n)(hz:Am.SZ C s)(hn:n≤2000000000)(hb:o.bH=2+10*(C.F:Int))(ha:o.aA=8):bV o M=some (s.mem .qa,0,nt M M.cell 0 (Am.place C s .qa) (s.mem .qa) 0 true):=by
 unfold bV
 rw[fh (by rw[ha];decide),fh (by rw[ha];decide),fh (by rw[ha];decide),fh (by rw[ha];decide),fh (by rw[ha];decide),fh (by rw[ha];decide),fQ ha,Sy h hz hb,uA h hz hn (a:=.qa) trivial,cW]
theorem VW{j:Nat}(h:AR C s M sz n)(hz:Am.SZ C s)(hn:n≤2000000000)(hb:o.bH=2+10*(C.F:Int))(hj:j<C.N)(ho:je o=some (j:Int))(ha:o.aA=9):bV o M=some (if s.mem (.flag j)=1 then 1 else 0,0,nt M (if s.mem (.flag j)=1 then M.cell.set (Am.place C s (.flag j)).toNat 0 else M.cell) 2 (Am.place C s (.flag j)) 1 0 (s.mem (.flag j)==1)):=by
 unfold bV
 rw[fh (by rw[ha];decide),fh (by rw[ha];decide),fh (by rw[ha];decide),fh (by rw[ha];decide),fh (by rw[ha];decide),fh (by rw[ha];decide),fh (by rw[ha];decide),fQ ha,ho,aE,JX h hz hj hb,aE,Nr h hz hn (a:=.flag j) hj,cW]
 by_cases e:s.mem (.flag j)=1
 ·rw[fQ (by rw[e];rfl),fQ e,fQ e]
 ·rw[fh (by simpa using e),fh e,fh e]
theorem VX(h:AR C s M sz n)(hz:Am.SZ C s)(hn:n≤2000000000)(hb:o.bH=2+10*(C.F:Int))(ha:o.aA=10):bV o M=some (0,0,nt M (M.cell.set (Am.place C s .AA).toNat 1) 1 (Am.place C s .AA) 1 0 true):=by
 unfold bV
 rw[fh (by rw[ha];decide),fh (by rw[ha];decide),fh (by rw[ha];decide),fh (by rw[ha];decide),fh (by rw[ha];decide),fh (by rw[ha];decide),fh (by rw[ha];decide),fh (by rw[ha];decide),VU h hz hb,rL h hz hn (a:=.AA) trivial,ej]
end
section
variable {K:Nat}{C:Am.k8}{p:aO}{s:Am.St}{S:ai}{M M':ah}{sz n i:Nat}{D:aF}{d:Int}{o':bu}
variable (b:uB C p s S M sz n)(hi:i<C.N)
include b hi
theorem CX(h1:dM M (act S i).bS=some (o',M'))(h2:o'.cP=2)(h3:o'.aA≠0):dJ S M (i:Int) D=some (xR none,fF S i {act S i with bS:=o' },M'):=by
 unfold dJ
 rw[uh h1 (JW (by rw[h2];decide) h3),fz,fQ rfl];rfl
theorem Lp(h1:dM M (act S i).bS=some (o',M'))(h2:o'.cP=2)(h3:o'.aA=0)(h4:o'.dy=18){f:Nat}(hf:(act S i).aj=f):dJ S M (i:Int) D=some (xR (Am.ev 3 f o'.eC 0),fF S i {act S i with bS:=o',aH:=1},M'):=by
 have hw:=b.wl hi
 unfold dJ
 rw[uh h1 (G1 (by rw[h2];decide) h3),fz,h4,fh (by decide),fQ rfl,fQ (by rw[iN];exact b.wh hi),Int.toNat_natCast]
 rw[show ag (fF S i {act S i with bS:=o' }).ae i={act S i with bS:=o' }from lu hw]
 show some ((⟨0,0,3,(act S i).aj,o'.eC,0⟩:aD),({S with ae:=(S.ae.set i _).set i _}:ai),M')=_
 rw[List.set_set,hf];rfl
theorem D7(h1:dM M (act S i).bS=some (o',M'))(h2:o'.cP=2)(h3:o'.aA=0)(h4:o'.dy=19):dJ S M (i:Int) D=some (xR none,fF S i {act S i with bS:=o',aH:=1},M'):=by
 have hw:=b.wl hi
 unfold dJ
 rw[uh h1 (G1 (by rw[h2];decide) h3),fz,h4,fh (by decide),fh (by decide),fQ rfl,fQ (by rw[iN];exact b.wh hi),Int.toNat_natCast]
 rw[show ag (fF S i {act S i with bS:=o' }).ae i={act S i with bS:=o' }from lu hw]
 show some (_,({S with ae:=(S.ae.set i _).set i _}:ai),M')=_
 rw[List.set_set];rfl
theorem PN(hp:s.pc i= .DA):iB C p sz n M (Am.step C s i d) (dJ S M (i:Int) D):=by
 obtain⟨w1,w2,w3⟩:=b.iS.wk i hi
 rw[hp]at w3
 obtain⟨a1,⟨l1,l2,l3,l4,l5,l6⟩⟩:=w3
 have hs:=λo' h=>u4 l4 l5 (by decide) (by decide) (by decide) (Z4 b.ar b.z b.cN l1 l5) (o':=o') (by rw[fh (by decide),fQ rfl];exact h)
 have hw:∀v,gS (act S i).bS v=if v≤0 then some {(act S i).bS with aA:=0,dy:=19,eC:=0}else if(act S i).bS.bR=1 then some {(act S i).bS with aA:=0,dy:=19,eC:=0}else some {(act S i).bS with aA:=9}:=λv=>by
  unfold gS da;rw[fQ l5];rfl
 have e:=hw (s.mem .qa)
 unfold Am.step;rw[hp];simp only
 by_cases h0:0<s.mem .qa∧1<C.N
 ·rw[fQ h0]
  rw[fh (by omega),fh (by rw[l2];omega)]at e
  have hr:=(yC hi).resolve_left (λh=>by omega)
  exact .mk b hi (CX b hi (hs _ e) l4 (by show(9:Int)≠0;decide)) w1 w2 rfl ⟨a1,1,⟨l1,l2,l3,l4,rfl,l6⟩,hr.2.2⟩ (b.uE rfl (by rw[hp];rfl) _ _ _ _ _) (Lg.nt rfl) trivial
 ·rw[fh h0]
  have e:gS (act S i).bS (s.mem .qa)=some {(act S i).bS with aA:=0,dy:=19,eC:=0}:=by
   rw[e];by_cases h1:s.mem .qa≤0
   ·rw[fQ h1]
   ·rw[fh h1,fQ (by rw[l2];have:=b.ok.n1;omega)]
  exact .mk b hi (D7 b hi (hs _ e) l4 rfl rfl) w1 w2 rfl rfl (b.uE rfl (by rw[hp];rfl) _ _ _ _ _) (Lg.nt rfl) trivial
theorem IM{j:Nat}(hp:s.pc i= .qG j):iB C p sz n M (Am.step C s i d) (dJ S M (i:Int) D):=by
 obtain⟨w1,w2,w3⟩:=b.iS.wk i hi
 rw[hp]at w3
 obtain⟨a1,k,⟨l1,l2,l3,l4,l5,l6⟩,hr⟩:=w3
 have hj:=zJ hr
 have n64:=b.ok.n64
 have hk:=hr.2.1
 have hac:=VW b.ar b.z b.cN l1 hj (Fj hi n64 l2 l3 l6 hr) l5
 have hs:=λo' h=>u4 l4 l5 (by decide) (by decide) (by decide) hac (o':=o') (by rw[fh (by decide),fQ rfl];exact h)
 have hw:=λv=>Sx (v:=v) l5 (k:=(k:Int)+1) (by rw[l6,eM (by omega)])
 unfold Am.step;rw[hp];simp only
 by_cases h1:s.mem (.flag j)=1
 ·have e:=hw 1
  rw[fQ rfl]at e
  rw[fQ h1,fQ h1]at hs;rw[fQ h1]
  exact .mk b hi (CX b hi (hs _ e) l4 (by show(7:Int)≠0;decide)) w1 w2 rfl ⟨a1,k,⟨l1,l2,l3,l4,rfl,l6⟩,hr⟩ (b.wc (c:=.flag j) rfl (by rw[hp];rfl) hj _ _ _ _ _) (by rw[show(s.mem (.flag j)==1)=true by rw[h1];rfl];exact Lg.nt rfl) trivial
 ·have e:=hw 0
  rw[fh (by decide)]at e
  rw[fh h1,fh h1]at hs;rw[fh h1]
  have hb:(s.mem (.flag j)==1)=false:=by simpa using h1
  rcases xu hi hr with ⟨e1,e2⟩ | ⟨e1,e2,e3⟩
  ·rw[fQ (by rw[l2];omega)]at e;rw[fQ e2]
   exact .mk b hi (D7 b hi (hs _ e) l4 rfl rfl) w1 w2 rfl rfl (b.uE rfl (by rw[hp];rfl) _ _ _ _ _) (by rw[hb];exact Lg.nt rfl) trivial
  ·rw[fh (by rw[l2];omega)]at e;rw[fh e2]
   exact .mk b hi (CX b hi (hs _ e) l4 (by show(act S i).bS.aA≠0;rw[show(act S i).bS.aA=9 from l5];decide)) w1 w2 rfl ⟨a1,k+1,⟨l1,l2,l3,l4,l5,by show(k:Int)+1=((k+1:Nat):Int);omega⟩,e3⟩ (b.uE rfl (by rw[hp];rfl) _ _ _ _ _) (by rw[hb];exact Lg.nt rfl) trivial
theorem IP{j:Nat}(hp:s.pc i= .s5 j):iB C p sz n M (Am.step C s i d) (dJ S M (i:Int) D):=by
 obtain⟨w1,w2,w3⟩:=b.iS.wk i hi
 rw[hp]at w3
 obtain⟨a1,k,⟨l1,l2,l3,l4,l5,l6⟩,hr⟩:=w3
 have n64:=b.ok.n64
 obtain⟨f,hh⟩:=Am.rK b.fi hi (by rw[hp];rfl)
 have hac:=Sz b.ar b.z b.cN l1 l5 (b.GL rfl)
 have e:∀v,gS (act S i).bS v=some {(act S i).bS with aA:=0,dy:=18,eC:=(j:Int)}:=λv=>by
  unfold gS da;rw[fh (by rw[l5];decide),fh (by rw[l5];decide),fQ l5,Fj hi n64 l2 l3 l6 hr];rfl
 have hs:=u4 l4 l5 (by decide) (by decide) (by decide) hac (by rw[fh (by decide),fQ rfl];exact e _)
 unfold Am.step;rw[hp];simp only[hh,Option.getD_some]
 exact .mk b hi (Lp b hi hs l4 rfl rfl (f:=f) (by rw[show(act S i).aj=fi (s.hold i)from w2,hh];rfl)) w1 w2 rfl rfl (b.wc (c:=.qa) rfl (by rw[hp];rfl) trivial _ _ _ _ _) (Lg.nt rfl) (by show(3:Nat)≠0;decide)
theorem zK(h1:dM M (act S i).bS=some (o',M'))(h2:o'.cP=4)(h3:o'.aA≠0):eH S M (i:Int) D=some (xR none,fF S i {act S i with bS:=o' },M'):=by
 unfold eH
 rw[uh h1 (JW (by rw[h2];decide) h3),fz,fQ rfl];rfl
theorem CY(h1:dM M (act S i).bS=some (o',M'))(h2:o'.cP=4)(h3:o'.aA=0)(h4:o'.dy=20):eH S M (i:Int) D=some (xR (Am.ev 10 0 0 0),fF S i {act S i with bS:=o',aH:=13},M'):=by
 have hw:=b.wl hi
 unfold eH jq
 rw[uh h1 (G1 (by rw[h2];decide) h3),fz,h4,fh (by decide),fQ rfl,fQ (by rw[iN];exact b.wh hi),Int.toNat_natCast]
 rw[show ag (fF S i {act S i with bS:=o' }).ae i={act S i with bS:=o' }from lu hw,ej]
 show some (_,({S with ae:=(S.ae.set i _).set i _}:ai),M')=_
 rw[List.set_set];rfl
theorem VY{o:bu}(ha:o.aA=10)(v:Int):gq o v=if o.cK≥o.bR then some {o with aA:=0,dy:=20,eC:=0}else some {o with aA:=9}:=by
 unfold gq da
 rw[fQ ha,Ja];rfl
theorem Z5{o:bu}(ha:o.aA=9):gq o 1=some {o with aA:=7}:=by
 unfold gq da
 rw[fh (by rw[ha];decide),fQ ha,aE];rfl
theorem VZ{o:bu}{v:Int}(h:(o.aA=9∧v≠1)∨o.aA=7){k:Int}(hk:wi (o.cK+1)=k):gq o v=if k≥o.bR then some {o with aA:=0,cK:=k,dy:=20,eC:=0}else some {o with aA:=9,cK:=k}:=by
 have e:eL (if o.aA=9 then some (v==1)else some false) (λg5=>if g5=true then some (Sum.inr {o with aA:=7})else some (Sum.inl (wi (o.cK+1))))=some (.inl k):=by
  rw[←hk]
  rcases h with ⟨h1,h2⟩ | h1
  ·rw[fQ h1,aE,fh (by simpa using h2)]
  ·rw[fh (by rw[h1];decide),aE,fh (by decide)]
 unfold gq da
 rw[fh (by rcases h with ⟨h1,_⟩ | h1<;>rw[h1]<;>decide),e,Ja];rfl
theorem PO(hp:s.pc i= .done):iB C p sz n M (Am.step C s i d) (eH S M (i:Int) D):=by
 obtain⟨w1,w2,w3⟩:=b.iS.wk i hi
 rw[hp]at w3
 obtain⟨a1,⟨l1,l2,l3,l4,l5,l6⟩⟩:=w3
 have hac:=VX b.ar b.z b.cN l1 l5
 have hs:=λo' h=>u4 l4 l5 (by decide) (by decide) (by decide) hac (o':=o') (by rw[fh (by decide),fh (by decide),fh (by decide)];exact h)
 have e:=VY b hi l5 0
 unfold Am.step;rw[hp];simp only[Am.nk]
 rcases yC hi with ⟨e1,e2⟩ | ⟨e1,e2,e3⟩
 ·rw[fQ (by rw[l6,l2];omega)]at e;rw[fQ e2]
  exact .mk b hi (CY b hi (hs _ e) l4 rfl rfl) w1 w2 rfl rfl (b.wc (c:=.AA) rfl (by rw[hp];rfl) trivial _ _ _ _ _) (Lg.nt rfl) (by show(10:Nat)≠0;decide)
 ·rw[fh (by rw[l6,l2];omega)]at e;rw[fh e2]
  exact .mk b hi (zK b hi (hs _ e) l4 (by show(9:Int)≠0;decide)) w1 w2 rfl ⟨a1,1,⟨l1,l2,l3,l4,rfl,l6⟩,e3⟩ (b.wc (c:=.AA) rfl (by rw[hp];rfl) trivial _ _ _ _ _) (Lg.nt rfl) trivial
theorem PR{j:Nat}(hp:s.pc i= .tell j):iB C p sz n M (Am.step C s i d) (eH S M (i:Int) D):=by
 obtain⟨w1,w2,w3⟩:=b.iS.wk i hi
 rw[hp]at w3
 obtain⟨a1,k,⟨l1,l2,l3,l4,l5,l6⟩,hr⟩:=w3
 have hj:=zJ hr
 have n64:=b.ok.n64
 have hk:=hr.2.1
 have hac:=VW b.ar b.z b.cN l1 hj (Fj hi n64 l2 l3 l6 hr) l5
 have hs:=λo' h=>u4 l4 l5 (by decide) (by decide) (by decide) hac (o':=o') (by rw[fh (by decide),fh (by decide),fh (by decide)];exact h)
 unfold Am.step;rw[hp];simp only[Am.nk]
 by_cases h1:s.mem (.flag j)=1
 ·have e:=Z5 b hi l5
  rw[fQ h1,fQ h1]at hs;rw[fQ h1]
  exact .mk b hi (zK b hi (hs _ e) l4 (by show(7:Int)≠0;decide)) w1 w2 rfl ⟨a1,k,⟨l1,l2,l3,l4,rfl,l6⟩,hr⟩ (b.wc (c:=.flag j) rfl (by rw[hp];rfl) hj _ _ _ _ _) (by rw[show(s.mem (.flag j)==1)=true by rw[h1];rfl];exact Lg.nt rfl) trivial
 ·have e:=VZ b hi (v:=0) (.inl ⟨l5,by decide⟩) (k:=(k:Int)+1) (by rw[l6,eM (by omega)])
  rw[fh h1,fh h1]at hs;rw[fh h1]
  have hb:(s.mem (.flag j)==1)=false:=by simpa using h1
  rcases xu hi hr with ⟨e1,e2⟩ | ⟨e1,e2,e3⟩
  ·rw[fQ (by rw[l2];omega)]at e;rw[fQ e2]
   exact .mk b hi (CY b hi (hs _ e) l4 rfl rfl) w1 w2 rfl rfl (b.uE rfl (by rw[hp];rfl) _ _ _ _ _) (by rw[hb];exact Lg.nt rfl) (by show(10:Nat)≠0;decide)
  ·rw[fh (by rw[l2];omega)]at e;rw[fh e2]
   exact .mk b hi (zK b hi (hs _ e) l4 (by show(9:Int)≠0;decide)) w1 w2 rfl ⟨a1,k+1,⟨l1,l2,l3,l4,rfl,by show(k:Int)+1=((k+1:Nat):Int);omega⟩,e3⟩ (b.uE rfl (by rw[hp];rfl) _ _ _ _ _) (by rw[hb];exact Lg.nt rfl) trivial
theorem IQ{j:Nat}(hp:s.pc i= .ug j):iB C p sz n M (Am.step C s i d) (eH S M (i:Int) D):=by
 obtain⟨w1,w2,w3⟩:=b.iS.wk i hi
 rw[hp]at w3
 obtain⟨a1,k,⟨l1,l2,l3,l4,l5,l6⟩,hr⟩:=w3
 have n64:=b.ok.n64
 have hk:=hr.2.1
 have hac:=Sz b.ar b.z b.cN l1 l5 (b.GL rfl)
 have hs:=λo' h=>u4 l4 l5 (by decide) (by decide) (by decide) hac (o':=o') (by rw[fh (by decide),fh (by decide),fh (by decide)];exact h)
 have e:=VZ b hi (v:=s.mem .qa-1) (.inr l5) (k:=(k:Int)+1) (by rw[l6,eM (by omega)])
 unfold Am.step;rw[hp];simp only[Am.nk]
 rcases xu hi hr with ⟨e1,e2⟩ | ⟨e1,e2,e3⟩
 ·rw[fQ (by rw[l2];omega)]at e;rw[fQ e2]
  exact .mk b hi (CY b hi (hs _ e) l4 rfl rfl) w1 w2 rfl rfl (b.wc (c:=.qa) rfl (by rw[hp];rfl) trivial _ _ _ _ _) (Lg.nt rfl) (by show(10:Nat)≠0;decide)
 ·rw[fh (by rw[l2];omega)]at e;rw[fh e2]
  exact .mk b hi (zK b hi (hs _ e) l4 (by show(9:Int)≠0;decide)) w1 w2 rfl ⟨a1,k+1,⟨l1,l2,l3,l4,rfl,by show(k:Int)+1=((k+1:Nat):Int);omega⟩,e3⟩ (b.wc (c:=.qa) rfl (by rw[hp];rfl) trivial _ _ _ _ _) (Lg.nt rfl) trivial
end
end Mo
end
section
namespace Mo
open Go SL GX
theorem IU{α:Type}[Inhabited α]{N j:Nat}{g:Nat→α}(h:j<N):ag ((List.range N).map g) j=g j:=by
 unfold ag;rw[List.getD_eq_getElem?_getD,List.getElem?_map,List.getElem?_range h];rfl
theorem JY{α:Type}[Inhabited α]{N j k:Nat}{l:List α}{y:α}(h:j<N):ag (lE N l k y) j=if j=k then y else ag l j:=IU h
theorem QV{α:Type}[Inhabited α]{N j:Nat}{ys l:List α}(h:j<N):ag (xx N ys l) j=if j<ys.length then ag ys j else ag l j:=IU h
theorem SA{α:Type}[Inhabited α]{lo m j:Nat}{l:List α}(h:j<m):ag (uN l lo m) j=ag l (lo+j):=IU h
def zDq:aC:=⟨0,0,0,0,0,0,0,0,0,0,0,0,0,false,0,0⟩
def Lr(C:Am.k8)(i:Nat)(l:List aI):bu:=⟨2+10*(C.F:Int),C.N,i,1,1,0,0,0,0,l,zDq⟩
section
variable {K:Nat}{C:Am.k8}{p:aO}{s:Am.St}{S:ai}{M M':ah}{sz n i:Nat}{D:aF}{d:Int}{o':bu}
variable (b:uB C p s S M sz n)(hi:i<C.N)
include b
theorem Nz:∀(e k g:Nat) (l:List aI),g+e=C.N→e<k→(∀v,v<g→ag l v=GN C v)→
 ∃l',nc K (⟨S.bC,S.aK⟩:dm) (i:Int) S.aP k l (g:Int)=some (⟨S.bC,S.aK,i,1,1,0,0,0,0,l',zDq⟩:bu)∧∀v,v<C.N→ag l' v=GN C v
 | e,k,g,l,he,hk,hl=>by
  obtain⟨k,rfl⟩ :∃m,k=m+1:=⟨k-1,by omega⟩
  have n64:=b.ok.n64
  have h1:=b.ok.c1;have h2:=b.ok.cm;have h3:=b.ok.m4
  rw[nc,b.iS.dl]
  by_cases hg:g<C.N
  ·obtain⟨e,rfl⟩ :∃m,e=m+1:=⟨e-1,by omega⟩
   have hd:=b.iS.dq g hg
   have ih:=Nz e k (g+1) (lE 64 l g (GN C g)) (by omega) (by omega) (λv hv=>by
    rw[JY (by omega)];split
    ·next e=>rw[e]
    ·exact hl v (by omega))
   have hin:bT (g:Int) C.N:=⟨by omega,by omega⟩
   have NA:bT (g:Int) 64:=⟨by omega,by omega⟩
   rw[fQ (by omega),fQ hin,Int.toNat_natCast,hd,Ds (by omega)]
   by_cases eg:(g:Int)=(i:Int)
   ·rw[fQ eg,fQ NA];exact ih
   ·rw[fh eg,fh (by show ¬(C.most:Int)<1;omega),fh (by show ¬(C.most:Int)>4096;omega),fQ NA];exact ih
  ·rw[fh (by omega)]
   exact⟨l,rfl,λv hv=>hl v (by omega)⟩
include hi
theorem PS(hK:100<K) :∃l,rA K (⟨S.bC,S.aK⟩:dm) (i:Int) S.aP=some (Lr C i l)∧∀v,v<C.N→ag l v=GN C v:=by
 have h1:=b.ok.n1;have h2:=b.ok.n64
 obtain⟨l,e1,e2⟩:=Nz (K:=K) (i:=i) b C.N K 0 (List.replicate 64 ⟨0,0⟩) (by omega) (by omega) (λv hv=>by omega)
 refine⟨l,?_,e2⟩
 unfold rA kr mu
 rw[fh (by show ¬S.aK<1;rw[b.iS.lw];omega),fh (by show ¬S.aK>64;rw[b.iS.lw];omega),aE,fQ (by show wi (2+S.aK)>0;rw[b.iS.lw,eM (by omega)];omega),fQ (by omega),decide_eq_true (by show(i:Int)<S.aK;rw[b.iS.lw];omega),aE,fQ rfl,fQ (by show((S.aP.length:Nat):Int)=S.aK;rw[b.iS.lw,b.iS.dl]),eP]
 rw[Int.ofNat_zero]at e1
 rw[e1,b.iS.lb,b.iS.lw];rfl
theorem NB(hK:100<K){S0:ai}{a:bB}(h0:S0=fF S i a)(ha:a.bj=i) :∃l,(∀M',mc K S0 M' (i:Int)=some (fF S i {a with bS:=Lr C i l,parked:=false,aH:=12}))∧∀v,v<C.N→ag l v=GN C v:=by
 obtain⟨l,e1,e2⟩:=PS (K:=K) b hi hK
 refine⟨l,λM' => ?_,e2⟩
 subst h0
 unfold mc
 rw[Int.toNat_natCast,show ag (fF S i a).ae i=a from lu (b.wl hi)]
 show eL (rA K (⟨S.bC,S.aK⟩:dm) a.bj S.aP) _=_
 rw[show rA K (⟨S.bC,S.aK⟩:dm) a.bj S.aP=some (Lr C i l) by rw[ha];exact e1,aE]
 show some ({S with ae:=(((S.ae.set i _).set i _).set i _).set i _}:ai)=_
 rw[List.set_set,List.set_set,List.set_set];rfl
theorem Lt(h1:dM M (act S i).bS=some (o',M'))(h2:o'.cP=3)(h3:o'.aA=0)(h4:o'.dy=17):eI K S M (i:Int) D=some (xR (Am.ev 10 0 0 0),fF S i {act S i with bS:=o',aH:=13},M'):=by
 have hw:=b.wl hi
 unfold eI jq
 rw[uh h1 (G1 (by rw[h2];decide) h3),fz,h4,fQ rfl,fQ (by rw[iN];exact b.wh hi),Int.toNat_natCast]
 rw[show ag (fF S i {act S i with bS:=o' }).ae i={act S i with bS:=o' }from lu hw,ej]
 show some (_,({S with ae:=(S.ae.set i _).set i _}:ai),M')=_
 rw[List.set_set];rfl
theorem Lu(h1:dM M (act S i).bS=some (o',M'))(h2:o'.cP=3)(h3:o'.aA=0)(h4:o'.dy=16)(ht:(act S i).tries<3):eI K S M (i:Int) D=some (xR none,fF S i {act S i with bS:=o',aH:=9},M'):=by
 have hw:=b.wl hi
 unfold eI
 rw[uh h1 (G1 (by rw[h2];decide) h3),fz,h4,fh (by decide),fQ rfl,fQ (by rw[iN];exact b.wh hi),Int.toNat_natCast]
 rw[show ag (fF S i {act S i with bS:=o' }).ae i={act S i with bS:=o' }from lu hw,fQ ht]
 show some (_,({S with ae:=(S.ae.set i _).set i _}:ai),M')=_
 rw[List.set_set];rfl
theorem NC(hK:100<K)(h1:dM M (act S i).bS=some (o',M'))(h2:o'.cP=3)(h3:o'.aA=0)(h4:o'.dy=16)(ht:¬(act S i).tries<3) :∃l,eI K S M (i:Int) D=some (xR none,fF S i {act S i with bS:=Lr C i l,parked:=false,aH:=12},M')∧∀v,v<C.N→ag l v=GN C v:=by
 have hw:=b.wl hi
 obtain⟨l,e1,e2⟩:=NB (K:=K) b hi hK (S0:=fF S i {act S i with bS:=o' }) rfl (b.iS.wk i hi).self
 refine⟨l,?_,e2⟩
 unfold eI
 rw[uh h1 (G1 (by rw[h2];decide) h3),fz,h4,fh (by decide),fQ rfl,fQ (by rw[iN];exact b.wh hi),Int.toNat_natCast]
 rw[show ag (fF S i {act S i with bS:=o' }).ae i={act S i with bS:=o' }from lu hw,fh ht,e1,aE];rfl
theorem PT(hK:100<K)(hp:s.pc i= .AD):iB C p sz n M (Am.step C s i d) (eI K S M (i:Int) D):=by
 obtain⟨w1,w2,w3⟩:=b.iS.wk i hi
 rw[hp]at w3
 obtain⟨a1,a2,l4,l5,l1,l2⟩:=w3
 have T:=b.dt.2 i hi
 unfold Am.Th at T;rw[hp]at T;simp only at T
 have hac:=VV b.ar b.z b.cN l1 l5
 have hs:=u4 l4 l5 (by decide) (by decide) (by decide) hac (by rw[fh (by decide),fh (by decide),fQ rfl])
 unfold Am.step;rw[hp];simp only
 by_cases h1:s.mem .AA=1
 ·rw[fQ h1];rw[fQ h1]at hs
  exact .mk b hi (Lt b hi hs l4 rfl rfl) w1 w2 rfl rfl (b.uE rfl (by rw[hp];rfl) _ _ _ _ _) (Lg.nt rfl) (by show(10:Nat)≠0;decide)
 ·rw[fh h1];rw[fh h1]at hs
  by_cases h2:s.tries i<3
  ·rw[fQ h2]
   exact .mk b hi (Lu b hi hs l4 rfl rfl (by rw[show(act S i).tries=s.tries i from a2];omega)) w1 w2 rfl ⟨rfl,a2,h2⟩ (b.uE rfl (by rw[hp];rfl) _ _ _ _ _) (Lg.nt rfl) trivial
  ·rw[fh h2]
   obtain⟨l,e1,e2⟩:=NC (D:=D) b hi hK hs l4 rfl rfl (by rw[show(act S i).tries=s.tries i from a2];omega)
   exact .mk b hi e1 w1 w2 rfl (.inr ⟨⟨rfl,⟨rfl,rfl,rfl,rfl,rfl,rfl⟩,e2⟩,rfl⟩) (b.uE rfl (by rw[hp];rfl) _ _ _ _ _) (Lg.nt rfl) trivial
section
variable {a:bB}
theorem vD:ag (fF S i a).ae (i:Int).toNat=a:=by rw[Int.toNat_natCast];exact lu (b.wl hi)
theorem zL{c v:Int}(h1:dM M a.bS=some (o',M'))(h2:mZ o'=some (c,v)):iA (fF S i a) M (i:Int)=some (c,v,fF S i {a with bS:=o' },M'):=by
 unfold iA
 rw[vD b hi,h1,ej]
 simp only
 rw[h2,ej]
 show some (_,_,({S with ae:=(S.ae.set i a).set i {a with bS:=o' }}:ai),M')=_
 rw[List.set_set];rfl
theorem qK(h1:dM M a.bS=some (o',M'))(h2:o'.cP=1)(h3:o'.aA≠0)(h4:o'.aA≠5∨a.parked=true):bL (fF S i a) M (i:Int) D=some (xR none,fF S i {a with bS:=o' },M'):=by
 unfold bL sj
 rw[zL b hi h1 (JW (by rw[h2];decide) h3),fz,fQ rfl,fQ (by rw[iN];exact b.wh hi),vD b hi]
 simp only
 rw[fQ h2,aE]
 by_cases e:o'.aA=5
 ·rw[fQ (by rw[e];rfl),fQ (h4.resolve_left (λh=>h e))];rfl
 ·rw[fh (by simpa using e)];rfl
theorem D8(h1:dM M a.bS=some (o',M'))(h2:o'.cP=1)(h3:o'.aA=5)(h4:a.parked=false):bL (fF S i a) M (i:Int) D=some (xR (Am.ev 9 0 0 0),fF S i {a with bS:=o',parked:=true},M'):=by
 unfold bL sj
 rw[zL b hi h1 (JW (by rw[h2];decide) (by rw[h3];decide)),fz,fQ rfl,fQ (by rw[iN];exact b.wh hi),vD b hi]
 simp only
 rw[fQ h2,aE,fQ (by rw[h3];rfl),fh (by rw[h4];decide),Int.toNat_natCast]
 show some (_,({S with ae:=(S.ae.set i _).set i _}:ai),M')=_
 rw[List.set_set];rfl
theorem yD(h1:dM M a.bS=some (o',M'))(h2:o'.cP=1)(h3:o'.aA=0)(h4:o'.dy=16):bL (fF S i a) M (i:Int) D=some (xR none,fF S i {a with bS:=o',tries:=0,aH:=9},M'):=by
 unfold bL
 rw[zL b hi h1 (G1 (by rw[h2];decide) h3),fz,h4,fh (by decide),fQ rfl,fQ (by rw[iN];exact b.wh hi),vD b hi,Int.toNat_natCast]
 show some (_,({S with ae:=((S.ae.set i _).set i _).set i _}:ai),M')=_
 rw[List.set_set,List.set_set];rfl
theorem D9(h1:dM M a.bS=some (o',M'))(h2:o'.cP=1)(h3:o'.aA=0)(h4:o'.dy=17):bL (fF S i a) M (i:Int) D=some (xR (Am.ev 10 0 0 0),fF S i {a with bS:=o',aH:=13},M'):=by
 unfold bL jq
 rw[zL b hi h1 (G1 (by rw[h2];decide) h3),fz,h4,fh (by decide),fh (by decide),fQ rfl,fQ (by rw[iN];exact b.wh hi),vD b hi,ej,Int.toNat_natCast]
 show some (_,({S with ae:=(S.ae.set i _).set i _}:ai),M')=_
 rw[List.set_set];rfl
end
theorem iT:fF S i (act S i)=S:=by
 have e:S.ae.set i (act S i)=S.ae:=by
  refine List.ext_getElem? λk => ?_
  rw[List.getElem?_set]
  have hw:=b.wl hi
  by_cases h:i=k
  ·subst h;rw[fQ rfl,fQ hw];show _=_;rw[List.getElem?_eq_getElem hw];show some (ag S.ae i)=_;unfold ag;rw[List.getD_eq_getElem?_getD,List.getElem?_eq_getElem hw];rfl
  ·rw[fh h]
 show({S with ae:=S.ae.set i (act S i)}:ai)=S
 rw[e]
end
end Mo
end
section
namespace Mo
open Go SL GX
section
variable {o o':bu}{M M':ah}{v:Int}
theorem Z6(ha:o.aA=1):fq o v=some {o with aA:=2}:=by unfold fq;rw[fQ ha]
theorem Z7(ha:o.aA=2):fq o v=some {o with aA:=3}:=by unfold fq;rw[fh (by rw[ha];decide),fQ ha]
theorem Z8(ha:o.aA=3):fq o v=if v=1 then some {o with aA:=6,iH:=17}else ig o:=by
 unfold fq mR;rw[fh (by rw[ha];decide),fh (by rw[ha];decide),fQ ha]
 split
 ·rfl
 ·cases ig o<;>rfl
theorem Z9(ha:o.aA=5):fq o v=if v=1 then some o else some {o with aA:=0,dy:=16,eC:=0}:=by
 unfold fq da;rw[fh (by rw[ha];decide),fh (by rw[ha];decide),fh (by rw[ha];decide),fQ ha];rfl
theorem V0(ha:o.aA=6):fq o v=if v=1 then some {o with aA:=7}else some {o with aA:=0,dy:=o.iH,eC:=0}:=by
 unfold fq da;rw[fh (by rw[ha];decide),fh (by rw[ha];decide),fh (by rw[ha];decide),fh (by rw[ha];decide),fQ ha];rfl
theorem aaa(ha:o.aA=7):fq o v=some {o with aA:=0,dy:=o.iH,eC:=0}:=by
 unfold fq da;rw[fh (by rw[ha];decide),fh (by rw[ha];decide),fh (by rw[ha];decide),fh (by rw[ha];decide),fh (by rw[ha];decide),fQ ha];rfl
theorem Fk(hk:o.cP=1)(ha:o.aA=4)(hx:jv o M=some (o',M')):dM M o=some (o',M'):=by
 unfold dM
 rw[fh (by rw[hk];decide),fh (by rw[ha];decide),eP,fQ ha,hx,ej]
theorem ND{l':aC}(h:eG M o.look=some (l',M'))(hk:l'.kind=4):jv o M=if l'.ag=0 then(if l'.code=0 then some ({o with look:=l' },M')else if l'.code=7 then some ({o with look:=l',aA:=6,iH:=16},M')else if l'.code=8 then eL (ig {o with look:=l' }) (λr=>some (r,M'))else some ({o with look:=l',aA:=0,dy:=1,eC:=0},M'))else some ({o with look:=l' },M'):=by
 unfold jv mR da
 rw[h,ej]
 by_cases e:l'.ag=0
 ·rw[IA (by rw[hk];decide) e,fQ e,ej];rfl
 ·rw[GO (by rw[hk];decide) e,fh e,ej,fQ rfl]
theorem aab{l:aC}(ha:l.ag=2):jO l v=some {l with ag:=1,t:=v}:=by unfold jO;rw[fQ ha]
theorem aac{l:aC}(ha:l.ag=1):jO l v=if l.t<v then some {l with ag:=0,code:=7,value:=0}else some {l with ag:=0,code:=8,value:=0}:=by
 unfold jO dL;rw[fh (by rw[ha];decide)];rfl
end
section
variable {K:Nat}{C:Am.k8}{p:aO}{s:Am.St}{S:ai}{M M':ah}{sz n i:Nat}{D:aF}{d:Int}{o:bu}
variable (b:uB C p s S M sz n)(hi:i<C.N)
include b hi
theorem JZ{k:Nat}(hw:o.bR=C.N)(hk:o.cK=k)(h:k+1=C.N):ig o=some {o with aA:=5,cK:=(k:Int)+1}:=by
 have n64:=b.ok.n64
 have e:wi (o.cK+1)=(k:Int)+1:=by rw[hk,eM (by omega)]
 unfold ig
 rw[e,fQ (by rw[hw];omega)]
theorem J0{k j:Nat}(hw:o.bR=C.N)(hs:o.fB=i)(hk:o.cK=k)(hd:∀v,v<C.N→ag o.aP v=GN C v)(h:ring C i j (k+1)):ig o=some {o with aA:=4,cK:=(k:Int)+1,look:=zI C 4 2 j 0}:=by
 have n64:=b.ok.n64
 have hj:=zJ h
 have hlt:=h.2.1
 have e:wi (o.cK+1)=(k:Int)+1:=by rw[hk,eM (by omega)]
 have ho:je {o with aA:=4,cK:=(k:Int)+1}=some (j:Int):=Fj (k:=k+1) hi n64 hw hs (by show(k:Int)+1=((k+1:Nat):Int);omega) h
 unfold ig vu
 rw[e,fh (by rw[hw];omega),ho,aE,fQ ⟨by omega,by omega⟩,Int.toNat_natCast,hd j hj,xe b,aE];rfl
theorem Ea{a:bB}(hr:RO C i 1 0 a)(hpk:a.parked=false):bL (fF S i a) M (i:Int) D=some (xR none,fF S i {a with bS:={a.bS with aA:=2}},nt M (M.cell.set (Am.place C s (.flag i)).toNat 1) 1 (Am.place C s (.flag i)) 1 0 true):=by
 obtain⟨a1,⟨l1,l2,l3,l4,l5,l6⟩,a2⟩:=hr
 exact qK b hi (u4 l4 l5 (by decide) (by decide) (by decide) (Z0 b.ar b.z b.cN hi l1 l3 l5) (by rw[fQ rfl];exact Z6 l5)) l4 (by show(2:Int)≠0;decide) (.inl (by show(2:Int)≠5;decide))
theorem PU(hp:s.pc i= .flag)(hr:RO C i 1 0 (act S i)∧(act S i).parked=false):iB C p sz n M (Am.step C s i d) (bL S M (i:Int) D):=by
 obtain⟨w1,w2,w3⟩:=b.iS.wk i hi
 have h:=Ea (D:=D) b hi hr.1 hr.2
 rw[iT b hi]at h
 obtain⟨⟨a1,⟨l1,l2,l3,l4,l5,l6⟩,a2⟩,a3⟩:=hr
 unfold Am.step;rw[hp];simp only
 exact .mk b hi h w1 w2 rfl ⟨⟨a1,⟨l1,l2,l3,l4,rfl,l6⟩,a2⟩,a3⟩ (b.wc (c:=.flag i) rfl (by rw[hp];rfl) hi _ _ _ _ _) (Lg.nt rfl) trivial
theorem NF(hp:s.pc i= .sleep):iB C p sz n M (Am.step C s i d) (bL S M (i:Int) D):=by
 obtain⟨w1,w2,w3⟩:=b.iS.wk i hi
 rw[hp]at w3
 obtain⟨⟨a1,⟨l1,l2,l3,l4,l5,l6⟩,a2⟩,a3⟩:=w3
 have hs:=λo' h=>u4 l4 l5 (by decide) (by decide) (by decide) (Z1 b.ar b.z b.cN l1 l5 (b.GL rfl)) (o':=o') (by rw[fQ rfl];exact h)
 have h:=qK (D:=D) b hi (a:=act S i) (hs _ (Z7 l5)) l4 (by show(3:Int)≠0;decide) (.inl (by show(3:Int)≠5;decide))
 rw[iT b hi]at h
 unfold Am.step;rw[hp];simp only
 exact .mk b hi h w1 w2 rfl ⟨⟨a1,⟨l1,l2,l3,l4,rfl,l6⟩,a2⟩,a3⟩ (b.wc (c:=.qa) rfl (by rw[hp];rfl) trivial _ _ _ _ _) (Lg.nt rfl) trivial
theorem G2(hp:s.pc i= .so):iB C p sz n M (Am.step C s i d) (bL S M (i:Int) D):=by
 obtain⟨w1,w2,w3⟩:=b.iS.wk i hi
 rw[hp]at w3
 obtain⟨⟨a1,⟨l1,l2,l3,l4,l5,l6⟩,a2⟩,a3⟩:=w3
 have hs:=λo' h=>u4 l4 l5 (by decide) (by decide) (by decide) (VV b.ar b.z b.cN l1 l5) (o':=o') (by rw[fQ rfl];exact h)
 have e:=Z8 l5 (v:=s.mem .AA)
 unfold Am.step;rw[hp];simp only[Am.looking]
 by_cases h1:s.mem .AA=1
 ·rw[fQ h1]at e;rw[fQ h1]
  have h:=qK (D:=D) b hi (a:=act S i) (hs _ e) l4 (by show(6:Int)≠0;decide) (.inl (by show(6:Int)≠5;decide))
  rw[iT b hi]at h
  exact .mk b hi h w1 w2 rfl ⟨a3,0,⟨a1,⟨l1,l2,l3,l4,rfl,l6⟩,a2⟩,rfl⟩ (b.uE rfl (by rw[hp];rfl) _ _ _ _ _) (Lg.nt rfl) trivial
 ·rw[fh h1]at e;rw[fh h1]
  rcases yC hi with ⟨e1,e2⟩ | ⟨e1,e2,e3⟩
  ·rw[JZ b hi l2 (k:=0) l6 (by omega)]at e;rw[fQ e2]
   have h:=D8 (D:=D) b hi (a:=act S i) (hs _ e) l4 rfl a3
   rw[iT b hi]at h
   exact .mk b hi h w1 w2 rfl ⟨rfl,_,a1,⟨l1,l2,l3,l4,rfl,rfl⟩,a2⟩ (b.uE rfl (by rw[hp];rfl) _ _ _ _ _) (Lg.nt rfl) (by show(9:Nat)≠0;decide)
  ·rw[J0 b hi l2 l3 (k:=0) l6 a2 e3]at e;rw[fh e2]
   have h:=qK (D:=D) b hi (a:=act S i) (hs _ e) l4 (by show(4:Int)≠0;decide) (.inl (by show(4:Int)≠5;decide))
   rw[iT b hi]at h
   exact .mk b hi h w1 w2 rfl ⟨a3,1,⟨a1,⟨l1,l2,l3,l4,rfl,rfl⟩,a2⟩,e3,rfl,rfl,rfl,rfl⟩ (b.uE rfl (by rw[hp];rfl) _ _ _ _ _) (Lg.nt rfl) trivial
theorem NG{j:Nat}(hp:s.pc i= .AU j):iB C p sz n M (Am.step C s i d) (bL S M (i:Int) D):=by
 obtain⟨w1,w2,w3⟩:=b.iS.wk i hi
 rw[hp]at w3
 obtain⟨a3,k,⟨a1,⟨l1,l2,l3,l4,l5,l6⟩,a2⟩,hr,o1,o2,o3,o4⟩:=w3
 have hj:=zJ hr
 have hd:=nl o1 o2 (by decide) (by decide) (BA b.ar b.z b.cN hj o2 o3) (by rw[fh (by decide),fh (by decide),fh (by decide)];exact aab o2)
 have hl:=ND hd o1
 rw[fh (by show ¬(1:Int)=0;decide)]at hl
 have h:=qK (D:=D) b hi (a:=act S i) (Fk l4 l5 hl) l4 (by show(act S i).bS.aA≠0;rw[show(act S i).bS.aA=4 from l5];decide) (.inl (by show(act S i).bS.aA≠5;rw[show(act S i).bS.aA=4 from l5];decide))
 rw[iT b hi]at h
 unfold Am.step;rw[hp];simp only
 exact .mk b hi h w1 w2 rfl ⟨a3,k,⟨a1,⟨l1,l2,l3,l4,l5,l6⟩,a2⟩,hr,⟨o1,rfl,o3,o4⟩,rfl⟩ (b.uE rfl (by rw[hp];rfl) _ _ _ _ _) (Lg.nt rfl) trivial
theorem NH{j:Nat}{t:Int}(hp:s.pc i= .zB j t):iB C p sz n M (Am.step C s i d) (bL S M (i:Int) D):=by
 obtain⟨w1,w2,w3⟩:=b.iS.wk i hi
 rw[hp]at w3
 obtain⟨a3,k,⟨a1,⟨l1,l2,l3,l4,l5,l6⟩,a2⟩,hr,⟨o1,o2,o3,o4⟩,o5⟩:=w3
 have hj:=zJ hr
 have e:=aac o2 (v:=s.mem (.bot j))
 have hd:=λl' h=>nl o1 o2 (by decide) (by decide) (Bz b.ar b.z b.cN hj o2 o3) (o':=l') (by rw[fh (by decide),fh (by decide),fh (by decide)];exact h)
 unfold Am.step;rw[hp];simp only[Am.looking]
 by_cases h1:t<s.mem (.bot j)
 ·rw[fQ (by rw[o5];exact h1)]at e;rw[fQ h1]
  have hl:=ND (hd _ e) o1
  rw[fQ rfl,fh (by show ¬(7:Int)=0;decide),fQ rfl]at hl
  have h:=qK (D:=D) b hi (a:=act S i) (Fk l4 l5 hl) l4 (by show(6:Int)≠0;decide) (.inl (by show(6:Int)≠5;decide))
  rw[iT b hi]at h
  exact .mk b hi h w1 w2 rfl ⟨a3,k,⟨a1,⟨l1,l2,l3,l4,rfl,l6⟩,a2⟩,rfl⟩ (b.uE rfl (by rw[hp];rfl) _ _ _ _ _) (Lg.nt rfl) trivial
 ·rw[fh (by rw[o5];exact h1)]at e;rw[fh h1]
  have hl:=ND (hd _ e) o1
  rw[fQ rfl,fh (by show ¬(8:Int)=0;decide),fh (by show ¬(8:Int)=7;decide),fQ rfl]at hl
  rcases xu hi hr with ⟨e1,e2⟩ | ⟨e1,e2,e3⟩
  ·rw[JZ b hi (o:={(act S i).bS with look:={(act S i).bS.look with ag:=0,code:=8,value:=0}}) l2 (k:=k) l6 e1,aE]at hl;rw[fQ e2]
   have h:=D8 (D:=D) b hi (a:=act S i) (Fk l4 l5 hl) l4 rfl a3
   rw[iT b hi]at h
   exact .mk b hi h w1 w2 rfl ⟨rfl,_,a1,⟨l1,l2,l3,l4,rfl,rfl⟩,a2⟩ (b.uE rfl (by rw[hp];rfl) _ _ _ _ _) (Lg.nt rfl) (by show(9:Nat)≠0;decide)
  ·rw[J0 b hi (o:={(act S i).bS with look:={(act S i).bS.look with ag:=0,code:=8,value:=0}}) l2 l3 (k:=k) l6 a2 e3,aE]at hl;rw[fh e2]
   have h:=qK (D:=D) b hi (a:=act S i) (Fk l4 l5 hl) l4 (by show(4:Int)≠0;decide) (.inl (by show(4:Int)≠5;decide))
   rw[iT b hi]at h
   exact .mk b hi h w1 w2 rfl ⟨a3,k+1,⟨a1,⟨l1,l2,l3,l4,rfl,by show(k:Int)+1=((k+1:Nat):Int);omega⟩,a2⟩,e3,rfl,rfl,rfl,rfl⟩ (b.uE rfl (by rw[hp];rfl) _ _ _ _ _) (Lg.nt rfl) trivial
theorem Lv(hp:s.pc i= .parked):iB C p sz n M (Am.step C s i d) (bL S M (i:Int) D):=by
 obtain⟨w1,w2,w3⟩:=b.iS.wk i hi
 rw[hp]at w3
 obtain⟨a3,k,a1,⟨l1,l2,l3,l4,l5,l6⟩,a2⟩:=w3
 have hs:=λo' h=>u4 l4 l5 (by decide) (by decide) (by decide) (Z2 b.ar b.z b.cN hi l1 l3 l5) (o':=o') (by rw[fQ rfl];exact h)
 have e:=Z9 l5 (v:=s.mem (.flag i))
 unfold Am.step;rw[hp];simp only
 by_cases h1:s.mem (.flag i)=1
 ·rw[fQ h1]at e;rw[fQ h1]
  have h:=qK (D:=D) b hi (a:=act S i) (hs _ e) l4 (by rw[show(act S i).bS.aA=5 from l5];decide) (.inr a3)
  rw[iT b hi]at h
  exact .mk (a:=act S i) b hi (by rw[iT b hi];exact h) w1 w2 (q:=.parked) (by show s.pc=_;rw[←hp,Am.nS]) ⟨a3,k,a1,⟨l1,l2,l3,l4,l5,l6⟩,a2⟩ (b.ar.same rfl rfl rfl rfl _ _ _ _ _) (Lg.nt rfl) trivial
 ·rw[fh h1]at e;rw[fh h1]
  have h:=yD (D:=D) b hi (a:=act S i) (hs _ e) l4 rfl rfl
  rw[iT b hi]at h
  exact .mk b hi h w1 w2 rfl (zG b hi rfl rfl (Am.bQ _ _ _)) (b.uE rfl (by rw[hp];exact zH b hi rfl) _ _ _ _ _) (Lg.nt rfl) trivial (Le:=λj hj=>Am.bA hj)
theorem PV{w:Bool}(hp:s.pc i= .back w):iB C p sz n M (Am.step C s i d) (bL S M (i:Int) D):=by
 obtain⟨w1,w2,w3⟩:=b.iS.wk i hi
 rw[hp]at w3
 obtain⟨a3,k,⟨a1,⟨l1,l2,l3,l4,l5,l6⟩,a2⟩,a4⟩:=w3
 have hs:=λo' h=>u4 l4 l5 (by decide) (by decide) (by decide) (Z3 b.ar b.z b.cN hi l1 l3 l5) (o':=o') (by rw[fQ rfl];exact h)
 unfold Am.step;rw[hp];simp only[Am.zC]
 by_cases h1:s.mem (.flag i)=1
 ·have e:=V0 l5 (v:=1)
  rw[fQ rfl]at e
  rw[fQ h1,fQ h1]at hs;rw[fQ h1]
  have h:=qK (D:=D) b hi (a:=act S i) (hs _ e) l4 (by show(7:Int)≠0;decide) (.inl (by show(7:Int)≠5;decide))
  rw[iT b hi]at h
  exact .mk b hi h w1 w2 rfl ⟨a3,k,⟨a1,⟨l1,l2,l3,l4,rfl,l6⟩,a2⟩,a4⟩ (b.wc (c:=.flag i) rfl (by rw[hp];rfl) hi _ _ _ _ _) (by rw[show(s.mem (.flag i)==1)=true by rw[h1];rfl];exact Lg.nt rfl) trivial
 ·have e:=V0 l5 (v:=0)
  rw[fh (by decide)]at e
  rw[fh h1,fh h1]at hs;rw[fh h1]
  have hb:(s.mem (.flag i)==1)=false:=by simpa using h1
  cases w with
  | true =>
   have h:=D9 (D:=D) b hi (a:=act S i) (hs _ e) l4 rfl a4
   rw[iT b hi]at h
   exact .mk b hi h w1 w2 rfl rfl (b.uE rfl (by rw[hp];rfl) _ _ _ _ _) (by rw[hb];exact Lg.nt rfl) (by show(10:Nat)≠0;decide)
  | false =>
   have h:=yD (D:=D) b hi (a:=act S i) (hs _ e) l4 rfl a4
   rw[iT b hi]at h
   exact .mk b hi h w1 w2 rfl (zG b hi rfl rfl (Am.bQ _ _ _)) (b.uE rfl (by rw[hp];exact zH b hi rfl) _ _ _ _ _) (by rw[hb];exact Lg.nt rfl) trivial (Le:=λj hj=>Am.bA hj)
theorem IV{w:Bool}(hp:s.pc i= .s6 w):iB C p sz n M (Am.step C s i d) (bL S M (i:Int) D):=by
 obtain⟨w1,w2,w3⟩:=b.iS.wk i hi
 rw[hp]at w3
 obtain⟨a3,k,⟨a1,⟨l1,l2,l3,l4,l5,l6⟩,a2⟩,a4⟩:=w3
 have hs:=u4 l4 l5 (by decide) (by decide) (by decide) (Sz b.ar b.z b.cN l1 l5 (b.GL rfl)) (by rw[fQ rfl];exact aaa l5)
 unfold Am.step;rw[hp];simp only[Am.zC]
 cases w with
 | true =>
  have h:=D9 (D:=D) b hi (a:=act S i) hs l4 rfl a4
  rw[iT b hi]at h
  exact .mk b hi h w1 w2 rfl rfl (b.wc (c:=.qa) rfl (by rw[hp];rfl) trivial _ _ _ _ _) (Lg.nt rfl) (by show(10:Nat)≠0;decide)
 | false =>
  have h:=yD (D:=D) b hi (a:=act S i) hs l4 rfl a4
  rw[iT b hi]at h
  exact .mk b hi h w1 w2 rfl (zG b hi rfl rfl (Am.bQ _ _ _)) (b.wc (c:=.qa) rfl (by rw[hp];exact zH b hi rfl) trivial _ _ _ _ _) (Lg.nt rfl) trivial (Le:=λj hj=>Am.bA hj)
def G3(C:Am.k8)(p:aO)(sz n:Nat)(M:ah)(D':aF)(o:Am.Out)(r:Option (aD×ai×ah×aF)):Prop:=
 ∃S' M',r=some (xR o.ev,S',M',D')∧Pz C p o.s S'∧AR C o.s M' sz (n+1)∧Lg C o.s M M' o.acc∧Nt o.ev
theorem iB.draw{o:Am.Out}{r:Option (aD×ai×ah)}{r':Option (aD×ai×ah×aF)}(h:iB C p sz n M o r)(hr:r'=nC r (λa b c=>some (a,b,c,D))):G3 C p sz n M D o r':=by
 obtain⟨S',M',rfl,h⟩:=h
 exact⟨S',M',by rw[hr,cW],h⟩
theorem NI(hK:100<K)(hp:s.pc i= .flag)(h9:(act S i).aH=9∧C.N=1):G3 C p sz n M D (Am.step C s i d) (fc K S M (i:Int) D):=by
 obtain⟨w1,w2,w3⟩:=b.iS.wk i hi
 obtain⟨l,e1,e2⟩:=NB (K:=K) b hi hK (S0:=S) (a:=act S i) (iT b hi).symm w1
 have hr:RO C i 1 0 {act S i with bS:=Lr C i l,parked:=false,aH:=12}:=⟨rfl,⟨rfl,rfl,rfl,rfl,rfl,rfl⟩,e2⟩
 have h:=Ea (D:=D) b hi hr rfl
 have hg:fc K S M (i:Int) D=nC (bL (fF S i {act S i with bS:=Lr C i l,parked:=false,aH:=12}) M (i:Int) D) (λa b c=>some (a,b,c,D)):=by
  unfold fc jH
  rw[aE,fQ (by rw[b.iS.wl];omega),e1 M,aE,fQ (by rw[iN];exact b.wh hi)]
 refine iB.draw b hi ?_ hg
 unfold Am.step;rw[hp];simp only
 exact .mk b hi h w1 w2 rfl ⟨⟨rfl,⟨rfl,rfl,rfl,rfl,rfl,rfl⟩,e2⟩,rfl⟩ (b.wc (c:=.flag i) rfl (by rw[hp];rfl) hi _ _ _ _ _) (Lg.nt rfl) trivial
theorem Lw(hp:s.pc i= .oa):G3 C p sz n M (Dg D) (Am.step C s i (AY D)) (fc K S M (i:Int) D):=by
 obtain⟨w1,w2,w3⟩:=b.iS.wk i hi
 rw[hp]at w3
 obtain⟨a1,a2,a3⟩:=w3
 have T:=b.dt.2 i hi
 unfold Am.Th at T;rw[hp]at T;simp only at T
 have n1:=b.ok.n1;have n64:=b.ok.n64
 obtain⟨v,hv⟩ :∃v,v=(i+1+(AY D%((C.N:Int)-1)).toNat)%C.N:=⟨_,rfl⟩
 have Xe:v<C.N:=by rw[hv];exact Nat.mod_lt _ (by omega)
 have m0:=Int.emod_nonneg (AY D) (b:=(C.N:Int)-1) (by omega)
 have m1:=Int.emod_lt_of_pos (AY D) (show 0<(C.N:Int)-1 by omega)
 have aad:((i:Int)+1+AY D%((C.N:Int)-1))%(C.N:Int)=(v:Int):=by
  rw[hv]
  have:(i:Int)+1+AY D%((C.N:Int)-1)=((i+1+(AY D%((C.N:Int)-1)).toNat:Nat):Int):=by omega
  rw[this];rfl
 have hlen:=b.iS.wl
 have hs:=nl (o:=zI C 3 2 v 0) (M:=M) (k:=3) (a:=2) rfl rfl (by decide) (by decide) (BA b.ar b.z b.cN Xe rfl rfl) (by rw[fh (by decide),fh (by decide),fQ rfl];exact VP rfl)
 have hact:act (fF S i {act S i with dB:=(v:Int),aX:=zI C 3 2 v 0,aH:=10}) i={act S i with dB:=(v:Int),aX:=zI C 3 2 v 0,aH:=10}:=lu (b.wl hi)
 have hst:cn (fF S i {act S i with dB:=(v:Int),aX:=zI C 3 2 v 0,aH:=10}) M (i:Int) (Dg D)=some (xR none,fF S i {act S i with dB:=(v:Int),aX:={zI C 3 2 v 0 with ag:=1,t:=s.mem (.top v)},aH:=10},nt M M.cell 0 (Am.place C s (.top v)) (s.mem (.top v)) 0 true):=by
  unfold cn
  rw[rM (by rw[hact];exact hs) (GO (by show(3:Int)≠0;decide) (by show(1:Int)≠0;decide)),fz,fQ rfl,hact,GQ];rfl
 have hg:fc K S M (i:Int) D=nC (cn (fF S i {act S i with dB:=(v:Int),aX:=zI C 3 2 v 0,aH:=10}) M (i:Int) (Dg D)) (λa b c=>some (a,b,c,Dg D)):=by
  unfold fc jH
  rw[aE,fh (by rw[hlen];omega),aE,hlen,eM (x:=(C.N:Int)-1) (by omega),Ny (by omega) (by omega),aE,aE,Int.toNat_natCast,show(ag S.ae i).bj=i from w1,eM (x:=(i:Int)+1) (by omega),eM (x:=(i:Int)+1+_) (by omega),Ny (by omega) (by omega),aE,aad]
  rw[fQ (by show bT (v:Int) S.aP.length;exact⟨by omega,by rw[b.iS.dl];omega⟩)]
  unfold uf
  rw[show ag S.aP (v:Int).toNat=GN C v by rw[Int.toNat_natCast];exact b.iS.dq v Xe,xe b,aE,aE,List.set_set,List.set_set];rfl
 refine iB.draw b hi ?_ hg
 unfold Am.step;rw[hp];simp only
 rw[←hv]
 exact .mk b hi hst w1 w2 rfl ⟨rfl,⟨a2,a3⟩,rfl,⟨rfl,rfl,rfl,rfl⟩,rfl⟩ (b.uE rfl (by rw[hp];rfl) _ _ _ _ _) (Lg.nt rfl) trivial
end
end Mo
end
section
namespace Mo
open Go SL GX
def iP(C:Am.k8)(k:Int)(f:Nat)(sl:Nat)(v:Int):aT:=⟨1,C.F,f,1,0,0,k,sl,v⟩
section
variable {C:Am.k8}{s:Am.St}{M M':ah}{sz n:Nat}{o o':aT}{f:Nat}
theorem G4(h:AR C s M sz n)(hz:Am.SZ C s)(hf:f<C.F){t:aN}(hb:t.jg=1):fI t (f:Int)=some (Am.place C s (.join f)):=by
 have p:=h.Py hz (a:=.join f) hf
 have e:Am.place C s (.join f)=2+10*(f:Int):=rfl
 rw[e]at p
 unfold fI
 rw[hb,eM (x:=(1:Int)+1) (by omega),eM (x:=(f:Int)*10) (by omega),eM (by omega),e];congr 1;omega
theorem QW(h:AR C s M sz n)(hz:Am.SZ C s)(hf:f<C.F){k:Nat}(hk:k<8){t:aN}(hb:t.jg=1):jb t (f:Int) (k:Int)=some (Am.place C s (.slot f k)):=by
 have p:=h.Py hz (a:=.slot f k) ⟨hf,hk⟩
 have e:Am.place C s (.slot f k)=4+10*(f:Int)+k:=rfl
 have e1:Am.place C s (.join f)=2+10*(f:Int):=rfl
 rw[e]at p
 unfold jb
 rw[G4 h hz hf hb,aE,e1,eM (x:=2+10*(f:Int)+2) (by omega),eM (by omega),e];congr 1;omega
theorem V1(h:AR C s M sz n)(hz:Am.SZ C s)(hf:f<C.F){t:aN}(hb:t.jg=1):kK t (f:Int)=some (Am.place C s (.mark f)):=by
 have p:=h.Py hz (a:=.mark f) hf
 have e:Am.place C s (.mark f)=3+10*(f:Int):=rfl
 have e1:Am.place C s (.join f)=2+10*(f:Int):=rfl
 rw[e]at p
 unfold kK
 rw[G4 h hz hf hb,aE,e1,eM (by omega),e];congr 1;omega
theorem IW(hC:C.OK)(hf:f<C.F){k:Int}{sl:Nat}(hs:sl<8){v:Int}:jc k (⟨1,C.F⟩:aN) (f:Int) (sl:Int) v=some (iP C k f sl v):=by
 have h1:=hC.f1;have h2:=hC.f4
 unfold jc mX
 simp only
 rw[fQ (by omega),fQ (by omega),fQ (by omega),fQ (by omega),decide_eq_true (by omega),aE,fQ rfl,fh (by omega),fh (by omega)];rfl
theorem BB(hC:C.OK)(hf:f<C.F){k v:Int}:jc k (⟨1,C.F⟩:aN) (f:Int) 0 v=some (iP C k f 0 v):=IW (sl:=0) hC hf (by omega)
theorem Fl{o:aT}(hb:o.dH=1)(hs:o.aB=0):gT o=some (o.eB,o.jU):=by
 unfold gT
 rw[fh (λe=>by rw[e]at hb;exact absurd hb (by decide)),fh (by omega)]
theorem NJ{o:aT}(hb:o.dH=1)(hs:o.aB>0):gT o=some (0,0):=by
 unfold gT
 rw[fh (λe=>by rw[e]at hb;exact absurd hb (by decide)),fQ hs]
theorem zM(hs:o.aB≠0){r:Option (Int×aT×ah)}(hr:r=some (0,o',M'))
 (hk:r=(if o.kind=0 then iI o M else if o.kind=1 then jL o M else if o.kind=2 then fu o M else if o.kind=3 then hO o M else if o.kind=4 then jt o M else ju o M)) :
 cC M o=some (if o'.aB>0 then({o' with aB:=wi (o'.aB+1)},M')else(o',M')):=by
 have fin:(if(0:Int)=0 then(if o'.aB>0 then some ({o' with aB:=wi (o'.aB+1)},M')else some (o',M'))else eL (dD o' 1 0) (λS=>some (S,M')))=some (if o'.aB>0 then({o' with aB:=wi (o'.aB+1)},M')else(o',M')):=by
  rw[fQ rfl];split<;>rfl
 rw[hr]at hk
 unfold cC
 rw[fh hs]
 split at hk
 ·rename_i h;rw[fQ h,←hk,cW];exact fin
 ·rename_i h;rw[fh h]
  split at hk
  ·rename_i h;rw[fQ h,←hk,cW];exact fin
  ·rename_i h;rw[fh h]
   split at hk
   ·rename_i h;rw[fQ h,←hk,cW];exact fin
   ·rename_i h;rw[fh h]
    split at hk
    ·rename_i h;rw[fQ h,←hk,cW];exact fin
    ·rename_i h;rw[fh h]
     split at hk
     ·rename_i h;rw[fQ h,←hk,cW];exact fin
     ·rename_i h;rw[fh h,←hk,cW];exact fin
theorem PW(h:AR C s M sz n)(hz:Am.SZ C s)(hn:n≤2000000000)(hf:f<C.F)(hv:-1000000000000≤s.mem (.mark f)∧s.mem (.mark f)≤1000000000000) :
 cC M (iP C 4 f 0 0)=some ({iP C 4 f 0 0 with aB:=0,eB:=14,jU:=s.mem (.mark f)+1},nt M (M.cell.set (Am.place C s (.mark f)).toNat (s.mem (.mark f)+1)) 3 (Am.place C s (.mark f)) 1 (s.mem (.mark f)+1) true):=by
 refine zM (o':={iP C 4 f 0 0 with aB:=0,eB:=14,jU:=s.mem (.mark f)+1}) (M':=nt M (M.cell.set (Am.place C s (.mark f)).toNat (s.mem (.mark f)+1)) 3 (Am.place C s (.mark f)) 1 (s.mem (.mark f)+1) true) (by show(1:Int)≠0;decide) rfl ?_
 show _=jt _ _
 unfold jt dD
 rw[show kK _ (iP C 4 f 0 0).fA=some (Am.place C s (.mark f))from V1 h hz hf rfl,aE,D6 h hz hn (a:=.mark f) hf (eM (by omega)),cW];rfl
theorem SB(h:AR C s M sz n)(hz:Am.SZ C s)(hn:n≤2000000000)(hf:f<C.F)(hv:-1000000000000≤s.mem (.join f)∧s.mem (.join f)≤1000000000000) :
 cC M (iP C 1 f 0 0)=some ({iP C 1 f 0 0 with aB:=0,eB:=9,jU:=s.mem (.join f)+1},nt M (M.cell.set (Am.place C s (.join f)).toNat (s.mem (.join f)+1)) 3 (Am.place C s (.join f)) 1 (s.mem (.join f)+1) true):=by
 refine zM (o':={iP C 1 f 0 0 with aB:=0,eB:=9,jU:=s.mem (.join f)+1}) (M':=nt M (M.cell.set (Am.place C s (.join f)).toNat (s.mem (.join f)+1)) 3 (Am.place C s (.join f)) 1 (s.mem (.join f)+1) true) (by show(1:Int)≠0;decide) rfl ?_
 show _=jL _ _
 unfold jL dD
 rw[show fI _ (iP C 1 f 0 0).fA=some (Am.place C s (.join f))from G4 h hz hf rfl,aE,D6 h hz hn (a:=.join f) hf (eM (by omega)),cW];rfl
theorem NK(h:AR C s M sz n)(hz:Am.SZ C s)(hn:n≤2000000000)(hf:f<C.F)(hb:o.dH=1)(hh:o.fA=f)(hv:-1000000000000≤s.mem (.join f)∧s.mem (.join f)≤1000000000000)(c:Int) :
 hM o M c=some (0,(if s.mem (.join f)-1=0 then o else {o with aB:=0,eB:=c,jU:=s.mem (.join f)-1}),nt M (M.cell.set (Am.place C s (.join f)).toNat (s.mem (.join f)-1)) 3 (Am.place C s (.join f)) (-1) (s.mem (.join f)-1) true):=by
 unfold hM dD
 rw[hh,G4 (t:=⟨o.dH,o.dr⟩) h hz hf hb,aE,D6 h hz hn (a:=.join f) hf (v:=s.mem (.join f)-1) (by rw[eM (by omega)];omega),cW,fQ rfl]
 by_cases e:s.mem (.join f)-1=0
 ·rw[fQ e,fQ e]
 ·rw[fh e,fh e,aE]
theorem J1(h:AR C s M sz n)(hz:Am.SZ C s)(hn:n≤2000000000)(hf:f<C.F)(hb:o.dH=1)(hh:o.fA=f)(c:Int) :
 gK o M c=some (0,{o with aB:=0,eB:=c,jU:=0},nt M (M.cell.set (Am.place C s (.join f)).toNat 1) 1 (Am.place C s (.join f)) 1 0 true):=by
 unfold gK dD
 rw[hh,G4 (t:=⟨o.dH,o.dr⟩) h hz hf hb,aE,rL h hz hn (a:=.join f) hf,ej,fQ rfl,aE]
theorem PX(h:AR C s M sz n)(hz:Am.SZ C s)(hn:n≤2000000000)(hf:f<C.F)(hv:-1000000000000≤s.mem (.join f)∧s.mem (.join f)≤1000000000000) :
 cC M (iP C 3 f 0 0)=some ((if s.mem (.join f)-1=0 then {iP C 3 f 0 0 with aB:=2}else {iP C 3 f 0 0 with aB:=0,eB:=12,jU:=s.mem (.join f)-1}),nt M (M.cell.set (Am.place C s (.join f)).toNat (s.mem (.join f)-1)) 3 (Am.place C s (.join f)) (-1) (s.mem (.join f)-1) true):=by
 have e:=NK (o:=iP C 3 f 0 0) h hz hn hf rfl rfl hv 12
 have e2:hO (iP C 3 f 0 0) M=hM (iP C 3 f 0 0) M 12:=by unfold hO;rw[fQ (show(iP C 3 f 0 0).aB=1 from rfl),e,cW]
 have:=zM (o:=iP C 3 f 0 0) (M:=M) (by show(1:Int)≠0;decide) (e2.trans e) rfl
 rw[this]
 by_cases e:s.mem (.join f)-1=0
 ·rw[fQ e,fQ e,fQ (by show(1:Int)>0;decide)];rfl
 ·rw[fh e,fh e,fh (by show ¬(0:Int)>0;decide)]
theorem SC(h:AR C s M sz n)(hz:Am.SZ C s)(hn:n≤2000000000)(hf:f<C.F){k:Nat}(hk:k<8)(v:Int) :
 cC M (iP C 2 f k v)=some ({iP C 2 f k v with aB:=2},nt M (M.cell.set (Am.place C s (.slot f k)).toNat v) 1 (Am.place C s (.slot f k)) v 0 true):=by
 have e:fu (iP C 2 f k v) M=some (0,iP C 2 f k v,nt M (M.cell.set (Am.place C s (.slot f k)).toNat v) 1 (Am.place C s (.slot f k)) v 0 true):=by
  unfold fu
  rw[fQ (show(iP C 2 f k v).aB=1 from rfl),show jb _ (iP C 2 f k v).fA (iP C 2 f k v).slot=some (Am.place C s (.slot f k))from QW h hz hf hk rfl,aE,show(iP C 2 f k v).Ge=v from rfl,rL h hz hn (a:=.slot f k) ⟨hf,hk⟩,ej]
 have:=zM (o:=iP C 2 f k v) (M:=M) (by show(1:Int)≠0;decide) e rfl
 rw[this,fQ (by show(1:Int)>0;decide)];rfl
theorem PY(h:AR C s M sz n)(hz:Am.SZ C s)(hn:n≤2000000000)(hf:f<C.F){k:Nat}(hk:k<8) :
 cC M (iP C 5 f k 0)=some ({iP C 5 f k 0 with aB:=0,eB:=15,jU:=s.mem (.slot f k)},nt M M.cell 0 (Am.place C s (.slot f k)) (s.mem (.slot f k)) 0 true):=by
 have e:ju (iP C 5 f k 0) M=some (0,{iP C 5 f k 0 with aB:=0,eB:=15,jU:=s.mem (.slot f k)},nt M M.cell 0 (Am.place C s (.slot f k)) (s.mem (.slot f k)) 0 true):=by
  unfold ju dD
  rw[show jb _ (iP C 5 f k 0).fA (iP C 5 f k 0).slot=some (Am.place C s (.slot f k))from QW h hz hf hk rfl,aE,uA h hz hn (a:=.slot f k) ⟨hf,hk⟩,cW];rfl
 have:=zM (o:=iP C 5 f k 0) (M:=M) (by show(1:Int)≠0;decide) e rfl
 rw[this,fh (by show ¬(0:Int)>0;decide)]
theorem PZ(h:AR C s M sz n)(hz:Am.SZ C s)(hn:n≤2000000000)(hv:0≤s.mem .next∧s.mem .next≤1000000000000) :
 cC M (iP C 0 0 0 0)=some ((if s.mem .next+1≤C.F then {iP C 0 0 0 0 with aB:=0,eB:=4,jU:=s.mem .next}else {iP C 0 0 0 0 with aB:=0,eB:=3,jU:=0}),nt M (M.cell.set (Am.place C s .next).toNat (s.mem .next+1)) 3 (Am.place C s .next) 1 (s.mem .next+1) true):=by
 have e:iI (iP C 0 0 0 0) M=some (0,(if s.mem .next+1≤C.F then {iP C 0 0 0 0 with aB:=0,eB:=4,jU:=s.mem .next}else {iP C 0 0 0 0 with aB:=0,eB:=3,jU:=0}),nt M (M.cell.set (Am.place C s .next).toNat (s.mem .next+1)) 3 (Am.place C s .next) 1 (s.mem .next+1) true):=by
  unfold iI mw dD
  rw[aE,show(⟨(iP C 0 0 0 0).dH,(iP C 0 0 0 0).dr⟩:aN).jg=Am.place C s .next from rfl,D6 h hz hn (a:=.next) trivial (eM (by omega)),cW,fQ rfl,fQ (by omega),aE]
  by_cases e:s.mem .next+1≤C.F
  ·rw[fQ e,fQ (by show decide (s.mem .next+1≤(C.F:Int))=true;exact decide_eq_true e),eM (by omega),show s.mem .next+1-1=s.mem .next by omega];rfl
  ·rw[fh e,fh (by show ¬decide (s.mem .next+1≤(C.F:Int))=true;simpa using e)];rfl
 have:=zM (o:=iP C 0 0 0 0) (M:=M) (by show(1:Int)≠0;decide) e rfl
 rw[this]
 by_cases e:s.mem .next+1≤C.F
 ·rw[fQ e,fh (by show ¬(0:Int)>0;decide)]
 ·rw[fh e,fh (by show ¬(0:Int)>0;decide)]
end
section
variable {K:Nat}{C:Am.k8}{p:aO}{s:Am.St}{S:ai}{M M':ah}{sz n i f:Nat}{D:aF}{d:Int}{o':aT}
variable (b:uB C p s S M sz n)(hi:i<C.N)
include b hi
theorem BC(hb:Am.busy (Am.sig (s.pc i))=true) :∃f,s.hold i=some f∧f<s.nf∧f<C.F∧(act S i).aj=f:=by
 obtain⟨f,hh⟩:=Am.rK b.fi hi hb
 have h:=(Am.zE b.fi hi hh).2
 exact⟨f,hh,h,Nat.lt_of_lt_of_le h b.fi.tM,by rw[show(act S i).aj=fi (s.hold i)from(b.iS.wk i hi).aj,hh];rfl⟩
theorem Lx:(⟨S.aR,S.aJ⟩:aN)=⟨1,C.F⟩:=by rw[b.iS.tb,b.iS.tf]
theorem G5{a:bB}{c v:Int}(h1:cC M a.cB=some (o',M'))(h2:gT o'=some (c,v)):dS (fF S i a) M (i:Int)=some (c,v,fF S i {a with cB:=o' },M'):=by
 unfold dS
 rw[vD b hi,h1,ej]
 simp only
 rw[h2,ej,Int.toNat_natCast]
 show some (_,_,({S with ae:=(S.ae.set i a).set i {a with cB:=o' }}:ai),M')=_
 rw[List.set_set];rfl
theorem NL{x:Int}(hp:s.pc i= .start x):iB C p sz n M (Am.step C s i d) (iy S M (i:Int) D):=by
 obtain⟨w1,w2,w3⟩:=b.iS.wk i hi
 obtain⟨f,hh,hn,hF,hfr⟩:=BC b hi (by rw[hp];rfl)
 rw[hp]at w3
 obtain⟨a1,a2⟩:=w3
 have hs:=PW b.ar b.z b.cN hF (b.GL rfl)
 have h:=G5 b hi (a:={act S i with cB:=iP C 4 f 0 0}) hs (Fl rfl rfl)
 unfold Am.step;rw[hp];simp only[hh,Option.getD_some]
 refine .mk (a:={act S i with cB:={iP C 4 f 0 0 with aB:=0,eB:=14,jU:=s.mem (.mark f)+1},aH:=1}) b hi ?_ w1 w2 rfl rfl (b.wc (c:=.mark f) rfl (by rw[hp];rfl) hF _ _ _ _ _) (Lg.nt rfl) (by show(1:Nat)≠0;decide)
 unfold iy sX
 rw[Lx b hi,Int.toNat_natCast,hfr,BB b.ok hF,aE,aE]
 rw[show({S with ae:=S.ae.set i {ag S.ae i with cB:=iP C 4 f 0 0}}:ai)=fF S i {act S i with cB:=iP C 4 f 0 0}from rfl,h,fz,fQ rfl,fQ (by rw[iN];exact b.wh hi),show ag (fF S i _).ae i=_ from lu (b.wl hi)]
 show some ((⟨0,0,1,(act S i).aj,(act S i).from_,s.mem (.mark f)+1⟩:aD),({S with ae:=(S.ae.set i _).set i _}:ai),_)=_
 rw[List.set_set]
 refine congrArg some (Prod.ext ?_ rfl)
 show(⟨0,0,1,(act S i).aj,(act S i).from_,s.mem (.mark f)+1⟩:aD)=_
 rw[hfr,show(act S i).from_=x from a2];rfl
theorem P0{c:Nat}(hp:s.pc i= .fork c):iB C p sz n M (Am.step C s i d) (iQ S M (i:Int) D):=by
 obtain⟨w1,w2,w3⟩:=b.iS.wk i hi
 obtain⟨f,hh,hn,hF,hfr⟩:=BC b hi (by rw[hp];rfl)
 rw[hp]at w3
 obtain⟨a1,a2⟩:=w3
 have hs:=SB b.ar b.z b.cN hF (b.GL rfl)
 have h:=G5 b hi (a:={act S i with cB:=iP C 1 f 0 0}) hs (Fl rfl rfl)
 unfold Am.step;rw[hp];simp only[hh,Option.getD_some]
 refine .mk (a:={act S i with cB:={iP C 1 f 0 0 with aB:=0,eB:=9,jU:=s.mem (.join f)+1},aX:=zI C 1 1 i c,aH:=3}) b hi ?_ w1 w2 rfl ⟨rfl,a2,⟨rfl,rfl,rfl,rfl⟩,rfl⟩ (b.wc (c:=.join f) rfl (by rw[hp];rfl) hF _ _ _ _ _) (Lg.nt rfl) trivial
 unfold iQ ue
 rw[Lx b hi,Int.toNat_natCast,hfr,BB b.ok hF,aE,aE]
 rw[show({S with ae:=S.ae.set i {ag S.ae i with cB:=iP C 1 f 0 0}}:ai)=fF S i {act S i with cB:=iP C 1 f 0 0}from rfl,h,fz,fQ rfl,fQ (by rw[iN];exact b.wh hi),show ag (fF S i _).ae i=_ from lu (b.wl hi)]
 unfold j4 vq
 rw[fQ (by show bT (act S i).bj S.aP.length;rw[show(act S i).bj=i from w1];exact⟨by omega,by rw[b.iS.dl];omega⟩),aE]
 rw[show ag (fF S i _).aP (Int.toNat _)=GN C i from(by show ag S.aP (act S i).bj.toNat=_;rw[show(act S i).bj=i from w1,Int.toNat_natCast];exact b.iS.dq i hi)]
 show eL (eL (lT 1 1 (GN C i) (act S i).bM) _) _=_
 rw[show lT 1 1 (GN C i) (act S i).bM=some (zI C 1 1 i c) by rw[show(act S i).bM=c from a2];exact xe b _ _ _ _,aE,aE]
 show some (_,({S with ae:=((S.ae.set i _).set i _).set i _}:ai),_)=_
 rw[List.set_set,List.set_set];rfl
theorem Ly{S0:ai}{a:bB}(h0:S0=fF S i a)(ha:a.bj=i)(M':ah):iG S0 M' (i:Int)=some (fF S i {a with aX:=zI C 2 1 i 0,aH:=8}):=by
 subst h0
 unfold iG j4 uY
 rw[vD b hi,ha,fQ (by show bT (i:Int) S.aP.length;exact⟨by omega,by rw[b.iS.dl];omega⟩),aE,Int.toNat_natCast,show ag (fF S i a).aP i=GN C i from b.iS.dq i hi,xe b,aE,aE]
 show some ({S with ae:=((S.ae.set i _).set i _).set i _}:ai)=_
 rw[List.set_set,List.set_set,←ha];rfl
end
end Mo
end
section
namespace Mo
open Go SL GX
def jh(S:ai)(T:List ay):ai:={S with ak:=T}
section
variable {K:Nat}{C:Am.k8}{p:aO}{s:Am.St}{S:ai}{M M':ah}{sz n i f:Nat}{D:aF}{d:Int}{o':aT}{T:List ay}{a:bB}
variable (b:uB C p s S M sz n)(hi:i<C.N)
include b hi
theorem sq:ag (fF (jh S T) i a).ae (i:Int).toNat=a:=by rw[Int.toNat_natCast];exact lu (b.wl hi)
theorem NM:bT (i:Int) (fF (jh S T) i a).ae.length:=by rw[iN];exact b.wh hi
theorem tI{c v:Int}(h1:cC M a.cB=some (o',M'))(h2:gT o'=some (c,v)):dS (fF (jh S T) i a) M (i:Int)=some (c,v,fF (jh S T) i {a with cB:=o' },M'):=by
 unfold dS
 rw[sq b hi,h1,ej]
 simp only
 rw[h2,ej,Int.toNat_natCast]
 show some (_,_,({S with ak:=T,ae:=(S.ae.set i a).set i {a with cB:=o' }}:ai),M')=_
 rw[List.set_set];rfl
theorem P1(ha:a.bj=i)(M':ah):iG (fF (jh S T) i a) M' (i:Int)=some (fF (jh S T) i {a with aX:=zI C 2 1 i 0,aH:=8}):=by
 unfold iG j4 uY
 rw[sq b hi,fQ (by rw[ha];show bT (i:Int) S.aP.length;exact⟨by omega,by rw[b.iS.dl];omega⟩),aE]
 rw[show ag (fF (jh S T) i a).aP a.bj.toNat=GN C i from(by rw[ha,Int.toNat_natCast];exact b.iS.dq i hi),xe b,aE,aE,Int.toNat_natCast]
 show some ({S with ak:=T,ae:=((S.ae.set i _).set i _).set i _}:ai)=_
 rw[List.set_set,List.set_set];rfl
theorem NN(h1:cC M a.cB=some (o',M'))(h2:o'.dH=1)(h3:o'.aB>0):cJ (fF (jh S T) i a) M (i:Int) D=some (xR none,fF (jh S T) i {a with cB:=o' },M'):=by
 unfold cJ
 rw[tI b hi h1 (NJ h2 h3),fz,fQ rfl];rfl
theorem Lz(h1:cC M a.cB=some (o',M'))(h2:o'.dH=1)(h3:o'.aB=0)(h4:o'.eB=13)(hf:a.aj=f):cJ (fF (jh S T) i a) M (i:Int) D=some (xR (Am.ev 5 f 0 0),fF (jh S T) i {a with cB:=o',aH:=1},M'):=by
 unfold cJ
 rw[tI b hi h1 (Fl h2 h3),fz,h4,fh (by decide),fQ rfl,fQ (NM b hi),sq b hi,sq b hi,Int.toNat_natCast]
 show some ((⟨0,0,5,a.aj,0,0⟩:aD),({S with ak:=T,ae:=(S.ae.set i _).set i _}:ai),M')=_
 rw[List.set_set]
 refine congrArg some (Prod.ext ?_ rfl)
 show(⟨0,0,5,a.aj,0,0⟩:aD)=_
 rw[hf];rfl
theorem LA(ha:a.bj=i)(h1:cC M a.cB=some (o',M'))(h2:o'.dH=1)(h3:o'.aB=0)(h4:o'.eB=12)(hf:a.aj=f):cJ (fF (jh S T) i a) M (i:Int) D=some (xR (Am.ev 4 f 0 0),fF (jh S T) i {a with cB:=o',aj:=-1,aX:=zI C 2 1 i 0,aH:=8},M'):=by
 unfold cJ
 rw[tI b hi h1 (Fl h2 h3),fz,h4,fh (by decide),fh (by decide),fQ rfl,fQ (NM b hi),sq b hi,sq b hi,Int.toNat_natCast]
 have e:({fF (jh S T) i {a with cB:=o' }with ae:=(fF (jh S T) i {a with cB:=o' }).ae.set i {({a with cB:=o' }:bB)with aj:=-1}}:ai)=fF (jh S T) i {a with cB:=o',aj:=-1}:=by
  show({S with ak:=T,ae:=(S.ae.set i _).set i _}:ai)=_
  rw[List.set_set];rfl
 rw[e,P1 b hi (a:={a with cB:=o',aj:=-1}) ha,aE]
 refine congrArg some (Prod.ext ?_ rfl)
 show(⟨0,0,4,a.aj,0,0⟩:aD)=_
 rw[hf];rfl
theorem IX:fF (jh S S.ak) i (act S i)=S:=iT b hi
theorem IY(hp:s.pc i= .pI):iB C p sz n M (Am.step C s i d) (cJ S M (i:Int) D):=by
 obtain⟨w1,w2,w3⟩:=b.iS.wk i hi
 obtain⟨f,hh,hn,hF,hfr⟩:=BC b hi (by rw[hp];rfl)
 rw[hp]at w3
 obtain⟨a1,t1,t2,t3,t4,t5⟩:=w3
 have t3:(act S i).cB.fA=f:=by rw[show(act S i).cB.fA=((act S i).aj.toNat:Int)from t3,hfr];rfl
 have e:=J1 (o:=(act S i).cB) b.ar b.z b.cN hF t1 t3 13
 have e2:hO (act S i).cB M=gK (act S i).cB M 13:=by
  unfold hO;rw[fh (by rw[t4];decide),e,cW]
 have hs:=zM (o:=(act S i).cB) (M:=M) (by rw[t4];decide) (e2.trans e) (by rw[t5];rfl)
 rw[fh (by show ¬(0:Int)>0;decide)]at hs
 have h:=Lz (D:=D) (T:=S.ak) (a:=act S i) b hi hs t1 rfl rfl hfr
 rw[IX b hi]at h
 unfold Am.step;rw[hp];simp only[hh,Option.getD_some]
 exact .mk b hi h w1 w2 rfl rfl (b.wc (c:=.join f) rfl (by rw[hp];rfl) hF _ _ _ _ _) (Lg.nt rfl) (by show(5:Nat)≠0;decide)
theorem NO(h1:cC M (act S i).cB=some (o',M'))(h2:o'.dH=1)(h3:o'.aB=0)(h4:o'.eB=10):dO S M (i:Int) D=some (xR none,fF S i {act S i with cB:=o',aX:=zI C 2 1 i 0,aH:=8},M'):=by
 have w1:=(b.iS.wk i hi).self
 unfold dO
 rw[Ff h1 (Fl h2 h3),fz,h4,fh (by decide),fQ rfl,fQ (by rw[iN];exact b.wh hi),Ly b hi (a:={act S i with cB:=o' }) rfl w1,aE];rfl
theorem NP(h1:cC M (act S i).cB=some (o',M'))(h2:o'.dH=1)(h3:o'.aB=0)(h4:o'.eB=11)(hin:bT (act S i).done S.ak.length):dO S M (i:Int) D=some ((⟨0,0,7,(ag S.ak (act S i).done.toNat).parent,(act S i).done,0⟩:aD),fF S i {act S i with cB:=o',aj:=(ag S.ak (act S i).done.toNat).parent,aH:=1},M'):=by
 unfold dO dz
 rw[Ff h1 (Fl h2 h3),fz,h4,fh (by decide),fh (by decide),fQ rfl,fQ (by rw[iN];exact b.wh hi),Int.toNat_natCast,show ag (fF S i {act S i with cB:=o' }).ae i={act S i with cB:=o' }from lu (b.wl hi)]
 rw[fQ (by exact hin),ia,fQ (by exact hin)]
 show some ((⟨0,0,7,(ag S.ak (act S i).done.toNat).parent,(act S i).done,0⟩:aD),({S with ae:=((S.ae.set i _).set i _).set i _}:ai),_)=_
 rw[List.set_set,List.set_set];rfl
theorem SD{pp c:Nat}(hp:s.pc i= .out pp c):iB C p sz n M (Am.step C s i d) (dO S M (i:Int) D):=by
 obtain⟨w1,w2,w3⟩:=b.iS.wk i hi
 have hg:(Am.view s).g i= .out pp c:=by show Am.sig (s.pc i)=_;rw[hp];rfl
 obtain⟨q1,q2,q3,q4,q5,q6⟩:=b.fi.fR hi hg
 have hF:pp<C.F:=Nat.lt_of_lt_of_le q3 b.fi.tM
 rw[hp]at w3
 obtain⟨a1,a2,t1,t2,t3,t4,t5⟩:=w3
 have e:=NK (o:=(act S i).cB) b.ar b.z b.cN hF t1 t3 (b.GL rfl) 10
 have e2:fu (act S i).cB M=hM (act S i).cB M 10:=by
  unfold fu;rw[fh (by rw[t4];decide),fQ t4,e,cW]
 have hs:=zM (o:=(act S i).cB) (M:=M) (by rw[t4];decide) (e2.trans e) (by rw[t5];rfl)
 unfold Am.step;rw[hp];simp only
 by_cases h0:s.mem (.join pp)-1=0
 ·rw[fQ h0];rw[fQ h0,fQ (by rw[t4];decide)]at hs
  have hst:wi ((act S i).cB.aB+1)=3:=by rw[t4];rfl
  refine .mk (a:={act S i with cB:={(act S i).cB with aB:=wi ((act S i).cB.aB+1)}}) b hi ?_ w1 w2 rfl ⟨a1,a2,t1,t2,t3,hst,t5⟩ (b.wc (c:=.join pp) rfl (by rw[hp];rfl) hF _ _ _ _ _) (Lg.nt rfl) trivial
  unfold dO
  rw[Ff hs (NJ t1 (by show wi ((act S i).cB.aB+1)>0;rw[hst];decide)),fz,fQ rfl];rfl
 ·rw[fh h0];rw[fh h0,fh (by show ¬(0:Int)>0;decide)]at hs
  exact .mk b hi (NO b hi hs t1 rfl rfl) w1 w2 rfl ⟨rfl,⟨rfl,rfl,rfl,rfl⟩,rfl,rfl⟩ (b.wc (c:=.join pp) rfl (by rw[hp];rfl) hF _ _ _ _ _) (Lg.nt rfl) trivial
theorem P2{pp c:Nat}(hp:s.pc i= .take pp c):iB C p sz n M (Am.step C s i d) (dO S M (i:Int) D):=by
 obtain⟨w1,w2,w3⟩:=b.iS.wk i hi
 have hg:(Am.view s).g i= .take pp c:=by show Am.sig (s.pc i)=_;rw[hp];rfl
 obtain⟨q6,q2,q4⟩:=b.fi.tp i pp c hi hg
 have q3:pp<s.nf:=q4▸ b.fi.pr c q2
 have hF:pp<C.F:=Nat.lt_of_lt_of_le q3 b.fi.tM
 rw[hp]at w3
 obtain⟨a1,a2,t1,t2,t3,t4,t5⟩:=w3
 have e:=J1 (o:=(act S i).cB) b.ar b.z b.cN hF t1 t3 11
 have e2:fu (act S i).cB M=gK (act S i).cB M 11:=by
  unfold fu;rw[fh (by rw[t4];decide),fh (by rw[t4];decide),e,cW]
 have hs:=zM (o:=(act S i).cB) (M:=M) (by rw[t4];decide) (e2.trans e) (by rw[t5];rfl)
 rw[fh (by show ¬(0:Int)>0;decide)]at hs
 have LB:(ag S.ak (act S i).done.toNat).parent=pp:=by
  rw[show(act S i).done=c from a2,Int.toNat_natCast,(b.iS.tk c q2).par,fh q6];rw[show pp=(s.fr c).par from q4]
 have hin:bT (act S i).done S.ak.length:=by rw[show(act S i).done=c from a2];exact b.task q2
 unfold Am.step;rw[hp];simp only
 refine .mk b hi ((NP b hi hs t1 rfl rfl hin).trans (congrArg some (Prod.ext ?_ rfl))) w1 (by show(ag S.ak (act S i).done.toNat).parent=fi (Am.fE s.hold i (some pp) i);rw[LB,Am.bQ];rfl) rfl rfl (b.wc (c:=.join pp) rfl (by rw[hp];rfl) hF _ _ _ _ _) (Lg.nt rfl) (by show(7:Nat)≠0;decide) (hh:=λj hj=>Am.bA hj)
 show(⟨0,0,7,(ag S.ak (act S i).done.toNat).parent,(act S i).done,0⟩:aD)=_
 rw[LB,show(act S i).done=c from a2];rfl
end
end Mo
end
section
namespace Mo
open Go SL GX
abbrev E0:aD:=⟨0,0,0,0,0,0⟩
section
variable {K:Nat}{C:Am.k8}{p:aO}{s:Am.St}{S:ai}{M M':ah}{sz n i f:Nat}{D:aF}{d:Int}{T:List ay}{a:bB}
theorem iB.P3{o:Am.Out}{q:Am.Pc}{x:Int}{l:Bool}{r:Option (aD×ai×ah)}(b:uB C p s S M sz n)(hi:i<C.N)(hr:r=some (xR o.ev,{fF (jh S T) i a with value:=x,left:=l},M'))
 (BF:a.bj=i) (hfr:a.aj=fi (o.s.hold i)) (hq:o.s.pc=Am.fE s.pc i q) (ZX:ph C i q (o.s.tries i) (o.s.cur i) o.s.base a) (har:AR C o.s M' sz (n+1)) (VF:Lg C o.s M M' o.acc) (Tz:Nt o.ev)
 (hT:T.length=C.F) (SP:∀g,g<o.s.nf→Ld (o.s.fr g) g (GX.ag T g)) (hl:l=o.s.val.isSome) (hx:x=o.s.val.getD 0)
 (hh:∀j,j≠i→o.s.hold j=s.hold j:=by intros;rfl) (Le:o.s.tries=s.tries:=by rfl) (hc:o.s.cur=s.cur:=by rfl) (hb:o.s.base=s.base:=by rfl):iB C p sz n M o r:=by
 refine⟨_,_,hr,?_,har,VF,Tz⟩
 have h:=b.iS
 have hwl:=h.wl
 refine⟨h.code,h.res,h.tb,h.tf,h.lb,h.lw,h.dl,h.dq,hT,SP,by show(fF (jh S T) i a).ae.length=_;rw[iN];exact h.wl,λj hj => ?_,hl,hx⟩
 show VD C o.s j (GX.ag (S.ae.set i a) j)
 by_cases e:j=i
 ·subst e;rw[oe (by omega),fQ rfl];exact⟨BF,hfr,by rw[hq,Am.bQ];exact ZX⟩
 ·rw[oe (by omega),fh e]
  obtain⟨w1,w2,w3⟩:=h.wk j hj
  have ep:o.s.pc j=s.pc j:=by rw[hq];exact Am.bA e
  exact⟨w1,by rw[hh j e];exact w2,by rw[ep,Le,hc,hb];exact w3⟩
theorem yE(b:uB C p s S M sz n)(hf:f<s.nf){t:ay}{y:Am.Fr}(ht:Ld y f t):∀g,g<s.nf→Ld (Am.fE s.fr f y g) g (GX.ag (S.ak.set f t) g):=λg hg=>by
 have hl:=b.iS.tl
 have hn:s.nf≤C.F:=b.fi.tM
 rw[oe (by omega),Am.fD]
 by_cases e:g=f
 ·subst e;rw[fQ rfl,fQ rfl];exact ht
 ·rw[fh e,fh e];exact b.iS.tk g hg
def sF(S:ai)(M:ah)(i:Nat)(D:aF)(f:Nat)(ci:bW)(t:ay):Option (aD×ai×ah):=
 let fr:Int:=f
 if ci.aa6=0 then if bT ci.A 16 then some (E0,jh S ((S.ak.set f t).set f ({t with cg:=lE 16 t.cg ci.A.toNat ci.K})),M)else none
 else if ci.aa6=1 then if bT ci.B 16 then if bT ci.A 16 then some (E0,jh S ((S.ak.set f t).set f ({t with cg:=lE 16 t.cg ci.A.toNat (GX.ag t.cg ci.B.toNat)})),M)else none else none
 else if ci.aa6=2 then if bT ci.B 16 then if bT ci.C 16 then pL (p7 ci.K (GX.ag t.cg ci.B.toNat) (GX.ag t.cg ci.C.toNat)) (λnW yJ=>if bT ci.A 16 then some (E0,jh S ((S.ak.set f t).set f ({t with cg:=lE 16 t.cg ci.A.toNat nW})),M)else none)else none else none
 else if ci.aa6=3 then some (E0,jh S ((S.ak.set f t).set f ({t with ag:=ci.A})),M)
 else if ci.aa6=4 then if bT ci.A 16 then(if(GX.ag t.cg ci.A.toNat)=0 then some (E0,jh S (S.ak.set f t),M)else some (E0,jh S ((S.ak.set f t).set f ({t with ag:=ci.B})),M))else none
 else if ci.aa6=8 then if bT ci.A 16 then some (E0,jh S ((S.ak.set f t).set f ({t with cg:=lE 16 t.cg ci.A.toNat t.nr})),M)else none
 else if ci.aa6=7 then eL (qz (⟨S.aR,S.aJ⟩:aN) fr ci.B) (λQD=>C2 (dS (fF (jh S (S.ak.set f t)) i {act S i with cB:=QD}) M (i:Int)) (λTo Ex tV QE=>(if To=15 then if bT fr tV.ak.length then if bT ci.A 16 then some (E0,{tV with ak:=tV.ak.set f ({GX.ag tV.ak f with cg:=lE 16 (GX.ag tV.ak f).cg ci.A.toNat Ex})},QE)else none else none else if bT (i:Int) tV.ae.length then pL (de tV QE (i:Int)) (λOb W3=>some (Ob,W3,QE))else none)))
 else if ci.aa6=5 then nC (jE (jh S (S.ak.set f t)) M (i:Int) ci) (λKH Du O4=>some (KH,Du,O4))
 else if ci.aa6=6 then eL (sg (⟨S.aR,S.aJ⟩:aN) fr) (λJI=>nC (cJ ({S with ak:=S.ak.set f t,ae:=(S.ae.set i ({act S i with cB:=JI})).set i ({({act S i with cB:=JI}:bB)with aH:=5})}) M (i:Int) D) (λVd W4 W5=>some (Vd,W4,W5)))
 else if bT ci.A 16 then nC (jF (jh S (S.ak.set f t)) M (i:Int) (GX.ag t.cg ci.A.toNat)) (λEN W6 W7=>some (EN,W6,W7))else none
variable (b:uB C p s S M sz n)(hi:i<C.N)
include b hi
structure Tw(p:aO)(C:Am.k8)(s:Am.St)(S:ai)(i f:Nat)(ci:bW)(t:ay):Prop where
 hh:s.hold i=some f
 hn:f<s.nf
 hF:f<C.F
 fr:(act S i).aj=f
 fn:(s.fr f).fn<p.aq.length
 ag:(s.fr f).ag<512
 ok:JE p (GX.ag p.aq (s.fr f).fn) ci
 Ho:Fq (GX.ag p.aq (s.fr f).fn)
 kd:0≤ci.aa6∧ci.aa6<10
 code:C.code (s.fr f).fn (s.fr f).ag=sN ci
 t:Ld {s.fr f with ag:=(s.fr f).ag+1} f t
theorem P4(hp:s.pc i= .run) :∃f ci t,Tw p C s S i f ci t∧jd S M (i:Int) D=sF S M i D f ci t:=by
 obtain⟨f,hh,hn,hF,hfr⟩:=BC b hi (by rw[hp];rfl)
 obtain⟨r1,r2,r3⟩:=b.fr f hn
 have r3:=r3 (Am.zE b.fi hi hh).1
 have cf:=b.cf
 have e1:C.QM=p.aq.length:=by rw[cf];rfl
 have e2:C.len (s.fr f).fn=(GX.ag p.aq (s.fr f).fn).Code.length:=by rw[cf];rfl
 have e3:C.code (s.fr f).fn (s.fr f).ag=sN (GX.ag (GX.ag p.aq (s.fr f).fn).Code (s.fr f).ag):=by rw[cf];rfl
 rw[e1]at r1;rw[e2]at r3
 have hs:=b.vd.Ho _ r1
 have hc:=b.vd.code _ r1
 have c5:=hs.EI
 have hk:=(Code.snd hs hc).kind ((s.fr f).ag:Int) (by omega) (by omega)
 rw[Int.toNat_natCast]at hk
 have ht:=b.iS.tk f hn
 have h1:bT (act S i).aj S.ak.length:=by rw[hfr];exact b.task hn
 have h2:bT (GX.ag S.ak (act S i).aj.toNat).fn S.code.length:=by rw[hfr,Int.toNat_natCast,ht.fn,b.iS.code];exact⟨by omega,by omega⟩
 have h3:bT (GX.ag S.ak (act S i).aj.toNat).ag (GX.ag S.code (GX.ag S.ak (act S i).aj.toNat).fn.toNat).Code.length:=by rw[hfr,Int.toNat_natCast,ht.fn,ht.ag,b.iS.code,Int.toNat_natCast];exact⟨by omega,by omega⟩
 refine⟨f,GX.ag (GX.ag p.aq (s.fr f).fn).Code (s.fr f).ag,{GX.ag S.ak f with ag:=wi ((GX.ag S.ak f).ag+1)},⟨hh,hn,hF,hfr,r1,by omega,hc.ins _ r3,hs,hk,e3,⟨ht.fn,by show wi ((GX.ag S.ak f).ag+1)=_;rw[ht.ag,eM (by omega)];rfl,ht.par,ht.slot,ht.ck,ht.nr,ht.cg⟩⟩,?_⟩
 have DL:GX.ag (GX.ag S.code (GX.ag S.ak f).fn.toNat).Code (GX.ag S.ak f).ag.toNat=GX.ag (GX.ag p.aq (s.fr f).fn).Code (s.fr f).ag:=by rw[ht.fn,ht.ag,b.iS.code,Int.toNat_natCast,Int.toNat_natCast]
 unfold jd dz
 rw[Int.toNat_natCast,fQ h1,ia,fQ h1,fQ h2,fQ h3]
 have aae:(GX.ag S.ae i).aj=(f:Int):=hfr
 rw[aae,Int.toNat_natCast,DL]
 rfl
end
end Mo
end
end Go.Proofs.YtpikpffbcjpmcaaGreatDoor

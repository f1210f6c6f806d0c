/- Regions that draw their order, reads and effects mixed: what reads may be done first. No program is named here. -/
import Derived.Test.YtpikpffbcjpmcaaDoorGZ
namespace Go.Proofs.YtpikpffbcjpmcaaDoor.GX
open Go Go.RowKit Go.Proofs.YtpikpffbcjpmcaaDoor.SL
set_option linter.unusedVariables false

/-! ### what leaves every cell as it is -/
def Keeps {α : Type} : Sem α → Prop
  | .pure _ => True
  | .load _ _ k => ∀ v, Keeps (k v)
  | .store .. => False
  | .new _ k => ∀ r, Keeps (k r)
  | .shape _ k => ∀ s, Keeps (k s)
  | .freeze .. => False
  | .frozen _ k => ∀ b, Keeps (k b)
  | .getObj _ k => ∀ o, Keeps (k o)
  | .setObj .. => False
  | .choose _ k => ∀ n, Keeps (k n)
  | .sys .. => False
  | .program k => ∀ p, Keeps (k p)
  | .mark _ k => Keeps k
  | .halt _ => True
def CellsGo (w w' : World) : Prop := ∀ ad v, w.cell? ad = some v → w'.cell? ad = some v
theorem CellsGo.refl (w : World) : CellsGo w w := fun _ _ h => h
theorem CellsGo.trans {a b c : World} (h : CellsGo a b) (k : CellsGo b c) : CellsGo a c := fun ad v hv => k ad v (h ad v hv)
theorem Keeps.run {α : Type} {P : Program} (s : Sem α) : ∀ (w : World), Keeps s → ∀ x w', s.run P w = .ok x w' → CellsGo w w' := by
  induction s with
  | pure a => intro w _ x w' h; simp only [Sem.run, Result.ok.injEq] at h; rw [← h.2]; exact .refl _
  | load m a k ih =>
    intro w hk x w' h
    simp only [Sem.run] at h
    split at h
    · exact ih _ w (hk _) x w' h
    · split at h
      · exact ih _ w (hk _) x w' h
      · cases h
  | store m a v k ih => intro w hk; exact hk.elim
  | new o k ih =>
    intro w hk x w' h
    simp only [Sem.run] at h
    have h1 := ih _ _ (hk _) x w' h
    refine CellsGo.trans (fun ad v hv => ?_) h1
    exact (World.cell?_alloc_lt w o ad (World.block_lt_of_cell? w ad hv)).trans hv
  | shape r k ih => intro w hk x w' h; simp only [Sem.run] at h; exact ih _ w (hk _) x w' h
  | freeze a n k ih => intro w hk; exact hk.elim
  | frozen a k ih => intro w hk x w' h; simp only [Sem.run] at h; exact ih _ w (hk _) x w' h
  | getObj r k ih =>
    intro w hk x w' h
    simp only [Sem.run] at h
    split at h
    · cases h
    · exact ih _ w (hk _) x w' h
    · cases h
  | setObj r o k ih => intro w hk; exact hk.elim
  | choose q k ih =>
    intro w hk x w' h
    simp only [Sem.run] at h
    split at h
    · exact ih _ w (hk _) x w' h
    · exact (ih _ { w with drawn := w.drawn + 1 } (hk _) x w' h : CellsGo w w')
  | sys c k ih => intro w hk; exact hk.elim
  | program k ih => intro w hk x w' h; simp only [Sem.run] at h; exact ih _ w (hk _) x w' h
  | mark m k ih => intro w hk x w' h; simp only [Sem.run] at h; exact ih w hk x w' h
  | halt e => intro w _ x w' h; simp only [Sem.run] at h; cases h
theorem Keeps.bind {α β : Type} : ∀ (s : Sem α) (f : α → Sem β), Keeps s → (∀ a, Keeps (f a)) → Keeps (s >>= f)
  | .pure a, f, _, hf => hf a
  | .load m a k, f, hk, hf => fun v => Keeps.bind (k v) f (hk v) hf
  | .new o k, f, hk, hf => fun v => Keeps.bind (k v) f (hk v) hf
  | .shape r k, f, hk, hf => fun v => Keeps.bind (k v) f (hk v) hf
  | .frozen a k, f, hk, hf => fun v => Keeps.bind (k v) f (hk v) hf
  | .getObj r k, f, hk, hf => fun v => Keeps.bind (k v) f (hk v) hf
  | .choose q k, f, hk, hf => fun v => Keeps.bind (k v) f (hk v) hf
  | .program k, f, hk, hf => fun v => Keeps.bind (k v) f (hk v) hf
  | .mark m k, f, hk, hf => Keeps.bind k f hk hf
  | .halt e, _, _, _ => trivial
theorem keeps_pure {α : Type} (a : α) : Keeps (pure a : Sem α) := trivial
theorem keeps_program : Keeps program := fun _ => trivial
theorem keeps_underlying (t : TypeId) : Keeps (underlying t) := by
  unfold underlying
  refine Keeps.bind _ _ keeps_program (fun p => ?_)
  split
  · exact trivial
  · exact trivial
theorem keeps_typeInfo (t : TypeId) : Keeps (typeInfo t) := by
  unfold typeInfo
  refine Keeps.bind _ _ keeps_program (fun p => ?_)
  split
  · exact trivial
  · exact trivial
theorem keeps_sizeOf (t : TypeId) : Keeps (sizeOf t) := Keeps.bind _ _ (keeps_typeInfo t) fun _ => trivial
theorem keeps_zeroValue (t : TypeId) : Keeps (zeroValue t) := by
  unfold zeroValue
  refine Keeps.bind _ _ (keeps_typeInfo t) (fun p => ?_)
  split
  · exact trivial
  · exact trivial
theorem keeps_isAgg (t : TypeId) : Keeps (isAgg t) := by
  unfold isAgg
  refine Keeps.bind _ _ (keeps_underlying t) (fun p => ?_)
  split <;> exact trivial
theorem keeps_loadCellsFrom (a : Addr) : ∀ (n i : Nat) (acc : Array Value), Keeps (loadCellsFrom a i n acc)
  | 0, _, _ => trivial
  | n + 1, i, acc => Keeps.bind _ _ (fun _ => trivial) fun v => keeps_loadCellsFrom a n (i + 1) _
theorem keeps_loadVar (t : TypeId) (a : Addr) : Keeps (loadVar t a) := by
  unfold loadVar
  refine Keeps.bind _ _ (keeps_isAgg t) (fun b => ?_)
  split
  · exact Keeps.bind _ _ (keeps_sizeOf t) fun _ => Keeps.bind _ _ (keeps_loadCellsFrom _ _ _ _) fun _ => trivial
  · exact fun _ => trivial
theorem keeps_newRow (t : TypeId) (cs : Array Value) : Keeps (newRow t cs) := by
  unfold newRow newObj
  exact fun _ => trivial
theorem keeps_newVar (t : TypeId) (v : Value) : Keeps (newVar t v) := keeps_newRow t _

/-- The kinds of operations that are known to leave every cell. -/
def keepsB (o : Oper) : Bool :=
  match o.op with
  | .move _ | .assign _ | .pick .. | .alloc _ | .box .. | .load .. | .buildSlice .. | .extract .. => true
  | _ => false
theorem keepsB_spec {P : Program} {o : Oper} (h : keepsB o = true) (ρ : Operand → Value) (w w' : World) (x : Next) (hr : (execOp ρ o).run P w = .ok x w') : (∃ u, x = .value u) ∧ CellsGo w w' := by
  have main : ∀ s : Sem Value, Keeps s → execOp ρ o = (do pure (.value (← s))) → (∃ u, x = .value u) ∧ CellsGo w w' := by
    intro s hs e
    rw [e] at hr
    refine ⟨?_, Keeps.run _ w (Keeps.bind _ _ hs fun _ => keeps_pure _) x w' hr⟩
    simp only [Sem.run_bind, Sem.run_pure] at hr
    cases hx : s.run P w with
    | ok v w2 =>
      rw [hx] at hr
      simp only [Result.andThen_ok, Result.ok.injEq] at hr
      exact ⟨v, hr.1.symm⟩
    | halt e w2 => rw [hx] at hr; cases hr
  unfold keepsB at h
  cases ho : o.op with
  | move y =>
    refine main (pure (ρ y)) trivial ?_
    unfold execOp; rw [ho]; rfl
  | assign y =>
    refine main (pure (ρ y)) trivial ?_
    unfold execOp; rw [ho]; rfl
  | pick c a b =>
    refine main (do pure (if ← asBool (ρ c) then ρ a else ρ b)) ?_ ?_
    · refine Keeps.bind _ _ ?_ (fun _ => trivial)
      unfold asBool
      split <;> exact trivial
    · unfold execOp
      rw [ho]
      cases hc : ρ c <;> simp [asBool, stuck, hc] <;> rfl
  | alloc t =>
    refine main (Instr.alloc t true (.tuple #[])) ?_ ?_
    · unfold Instr.alloc
      exact Keeps.bind _ _ (keeps_zeroValue t) fun z => Keeps.bind _ _ (keeps_newVar t z) fun _ => trivial
    · unfold execOp; rw [ho]
  | box t y =>
    refine main (Instr.box t (ρ y)) (Keeps.bind _ _ (keeps_newVar t _) fun _ => trivial) ?_
    unfold execOp; rw [ho]
  | load t y =>
    refine main (Instr.loadAt t (ρ y)) (Keeps.bind _ _ ?_ fun _ => keeps_loadVar _ _) ?_
    · unfold Instr.sureAddr
      split <;> exact trivial
    · unfold execOp; rw [ho]
  | buildSlice t n ps =>
    refine main (Instr.buildSlice t n (ps.map fun (i, x) => (i, ρ x))) ?_ ?_
    · unfold Instr.buildSlice
      refine Keeps.bind _ _ (keeps_underlying t) (fun d => ?_)
      split
      · refine Keeps.bind _ _ (keeps_sizeOf _) (fun sz => ?_)
        dsimp only
        split
        · exact trivial
        · split
          · refine Keeps.bind _ _ (keeps_pure _) (fun z => ?_)
            split
            · exact Keeps.bind _ _ (keeps_newRow _ _) fun _ => keeps_pure _
            · exact trivial
          · refine Keeps.bind _ _ (keeps_zeroValue _) (fun v => Keeps.bind _ _ (keeps_pure _) (fun z => ?_))
            split
            · exact Keeps.bind _ _ (keeps_newRow _ _) fun _ => keeps_pure _
            · exact trivial
      · exact trivial
    · unfold execOp; rw [ho]
  | extract y i =>
    refine main (Instr.extract (ρ y) i) ?_ ?_
    · unfold Instr.extract
      split
      · split <;> exact trivial
      · exact trivial
    · unfold execOp; rw [ho]
  | _ => rw [ho] at h; cases h

/-! ### reads first -/
section
variable {P : Program} {ops : Array Oper} {Q : Exit → Act → World → Prop} {a : Act} {w w0 w1 : World} {o : Oper} {n d t : Nat} {v : Value} {l : List (Nat × Value)} {j e : Nat → Value} {H : HProp} {md : Region.Mode} {Df : List Deferred}
/-- A panic is told without looking at the slots. -/
def PanInv (Q : Exit → Act → World → Prop) : Prop := ∀ ch (a : Act) w dst v, Q (.panic ch) (a.put dst v) w → Q (.panic ch) a w
theorem paninv_body {fn : Func} {R : Ending → World → Prop} : PanInv (bodyPost P fn R) := by
  intro ch a w dst v h
  cases dst <;> exact h
theorem paninv_then {K : Act → World → Prop} (h : PanInv Q) : PanInv (Exit.then K Q) := fun ch a w dst v k => h ch a w dst v k
theorem paninv_block {i : Nat} (h : PanInv Q) : PanInv (Exit.inBlock i Q) := fun ch a w dst v k => h ch a w dst v k

def YD (P : Program) (ops : Array Oper) (D : World → Prop) (o : Oper) (v : Value) (a : Act) : Prop :=
  (Region.wanted o (yielded ops a.tmps) = true ∧ ∀ w, D w → (execOp a.eval o).run P w = .ok (.value v) w) ∨ (Region.wanted o (yielded ops a.tmps) = false ∧ v = undef)
theorem YD.of_same {D : World → Prop} {a' : Act} (hy : YD P ops D o v a) (he : execOp a'.eval o = execOp a.eval o)
    (hw : Region.wanted o (yielded ops a'.tmps) = Region.wanted o (yielded ops a.tmps)) : YD P ops D o v a' := by
  unfold YD at *; rw [he, hw]; exact hy
theorem YD.wpOp {D : World → Prop} {i : Nat} (hi : ops[i]? = some o) (hy : YD P ops D o v a) (hD : D w) {K : Act → World → Prop} (h : K (a.put o.dst v) w) : wpOp P ops Q i K a w := by
  unfold Go.wpOp
  simp only [hi]
  rcases hy with ⟨hw, hv⟩ | ⟨hw, rfl⟩
  · rw [if_pos hw]
    left
    unfold Oper.wp
    rw [hv w hD]
    exact h
  · rw [if_neg (by rw [hw]; decide)]
    exact h

def canB (md : Region.Mode) (ops : Array Oper) (listed : Array Bool) (i : Nat) : Nat → Nat → Bool
  | 0, _ => true
  | f + 1, k => k != i && match ops[k]? with
    | none => false
    | some ok => ok.after.all fun e => !Region.binds md e || listed.getD e.on false || canB md ops listed i f e.on
/-! ### the rules -/
theorem reg_any {id : Nat} {lo : List Oper} (hF : Fit w0 H w) (hm : P.follows .mixedOrders = true) (k : ∀ w, Fit w0 H w → wpAny P .any lo.toArray Q lo.toArray.size (Array.replicate lo.toArray.size false) a w) :
    (Code.region id lo.toArray true).wp P Q a w := wp_region_any hm (k _ hF.drew)
end
end Go.Proofs.YtpikpffbcjpmcaaDoor.GX

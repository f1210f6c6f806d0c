/- Regions that draw their order, reads and effects mixed: what reads may be done first. No program is named here. -/
import Derived.Test.YtpikpffbcjpmcaaGreatDoorGZ
namespace Go.Proofs.YtpikpffbcjpmcaaGreatDoor.GX
open Go Go.RowKit Go.Proofs.YtpikpffbcjpmcaaGreatDoor.SL
set_option linter.unusedVariables false

/-! ### what leaves every cell as it is -/
def Keeps {α : Type} : Sem α → Prop
  | .pure _ => True
  | .load _ _ k => ∀ v, Keeps (k v)
  | .store .. => False
  | .new _ k => ∀ r, Keeps (k r)
  | .shape _ k => ∀ s, Keeps (k s)
  | .freeze .. => False
  | .frozen _ k => ∀ b, Keeps (k b)
  | .getObj _ k => ∀ o, Keeps (k o)
  | .setObj .. => False
  | .choose _ k => ∀ n, Keeps (k n)
  | .sys .. => False
  | .program k => ∀ p, Keeps (k p)
  | .mark _ k => Keeps k
  | .halt _ => True
def CellsGo (w w' : World) : Prop := ∀ ad v, w.cell? ad = some v → w'.cell? ad = some v
theorem CellsGo.refl (w : World) : CellsGo w w := fun _ _ h => h
theorem CellsGo.trans {a b c : World} (h : CellsGo a b) (k : CellsGo b c) : CellsGo a c := fun ad v hv => k ad v (h ad v hv)
theorem Keeps.run {α : Type} {P : Program} (s : Sem α) : ∀ (w : World), Keeps s → ∀ x w', s.run P w = .ok x w' → CellsGo w w' := by
  induction s with
  | pure a => intro w _ x w' h; simp only [Sem.run, Result.ok.injEq] at h; rw [← h.2]; exact .refl _
  | load m a k ih =>
    intro w hk x w' h
    simp only [Sem.run] at h
    split at h
    · exact ih _ w (hk _) x w' h
    · split at h
      · exact ih _ w (hk _) x w' h
      · cases h
  | store m a v k ih => intro w hk; exact hk.elim
  | new o k ih =>
    intro w hk x w' h
    simp only [Sem.run] at h
    have h1 := ih _ _ (hk _) x w' h
    refine CellsGo.trans (fun ad v hv => ?_) h1
    exact (World.cell?_alloc_lt w o ad (World.block_lt_of_cell? w ad hv)).trans hv
  | shape r k ih => intro w hk x w' h; simp only [Sem.run] at h; exact ih _ w (hk _) x w' h
  | freeze a n k ih => intro w hk; exact hk.elim
  | frozen a k ih => intro w hk x w' h; simp only [Sem.run] at h; exact ih _ w (hk _) x w' h
  | getObj r k ih =>
    intro w hk x w' h
    simp only [Sem.run] at h
    split at h
    · cases h
    · exact ih _ w (hk _) x w' h
    · cases h
  | setObj r o k ih => intro w hk; exact hk.elim
  | choose q k ih =>
    intro w hk x w' h
    simp only [Sem.run] at h
    split at h
    · exact ih _ w (hk _) x w' h
    · exact (ih _ { w with drawn := w.drawn + 1 } (hk _) x w' h : CellsGo w w')
  | sys c k ih => intro w hk; exact hk.elim
  | program k ih => intro w hk x w' h; simp only [Sem.run] at h; exact ih _ w (hk _) x w' h
  | mark m k ih => intro w hk x w' h; simp only [Sem.run] at h; exact ih w hk x w' h
  | halt e => intro w _ x w' h; simp only [Sem.run] at h; cases h
theorem Keeps.bind {α β : Type} : ∀ (s : Sem α) (f : α → Sem β), Keeps s → (∀ a, Keeps (f a)) → Keeps (s >>= f)
  | .pure a, f, _, hf => hf a
  | .load m a k, f, hk, hf => fun v => Keeps.bind (k v) f (hk v) hf
  | .new o k, f, hk, hf => fun v => Keeps.bind (k v) f (hk v) hf
  | .shape r k, f, hk, hf => fun v => Keeps.bind (k v) f (hk v) hf
  | .frozen a k, f, hk, hf => fun v => Keeps.bind (k v) f (hk v) hf
  | .getObj r k, f, hk, hf => fun v => Keeps.bind (k v) f (hk v) hf
  | .choose q k, f, hk, hf => fun v => Keeps.bind (k v) f (hk v) hf
  | .program k, f, hk, hf => fun v => Keeps.bind (k v) f (hk v) hf
  | .mark m k, f, hk, hf => Keeps.bind k f hk hf
  | .halt e, _, _, _ => trivial
theorem keeps_pure {α : Type} (a : α) : Keeps (pure a : Sem α) := trivial
theorem keeps_stuck {α : Type} (s : String) : Keeps (stuck s : Sem α) := trivial
theorem keeps_program : Keeps program := fun _ => trivial
theorem keeps_underlying (t : TypeId) : Keeps (underlying t) := by
  unfold underlying
  refine Keeps.bind _ _ keeps_program (fun p => ?_)
  split
  · exact trivial
  · exact trivial
theorem keeps_typeInfo (t : TypeId) : Keeps (typeInfo t) := by
  unfold typeInfo
  refine Keeps.bind _ _ keeps_program (fun p => ?_)
  split
  · exact trivial
  · exact trivial
theorem keeps_sizeOf (t : TypeId) : Keeps (sizeOf t) := Keeps.bind _ _ (keeps_typeInfo t) fun _ => trivial
theorem keeps_zeroValue (t : TypeId) : Keeps (zeroValue t) := by
  unfold zeroValue
  refine Keeps.bind _ _ (keeps_typeInfo t) (fun p => ?_)
  split
  · exact trivial
  · exact trivial
theorem keeps_isAgg (t : TypeId) : Keeps (isAgg t) := by
  unfold isAgg
  refine Keeps.bind _ _ (keeps_underlying t) (fun p => ?_)
  split <;> exact trivial
theorem keeps_loadCellsFrom (a : Addr) : ∀ (n i : Nat) (acc : Array Value), Keeps (loadCellsFrom a i n acc)
  | 0, _, _ => trivial
  | n + 1, i, acc => Keeps.bind _ _ (fun _ => trivial) fun v => keeps_loadCellsFrom a n (i + 1) _
theorem keeps_loadVar (t : TypeId) (a : Addr) : Keeps (loadVar t a) := by
  unfold loadVar
  refine Keeps.bind _ _ (keeps_isAgg t) (fun b => ?_)
  split
  · exact Keeps.bind _ _ (keeps_sizeOf t) fun _ => Keeps.bind _ _ (keeps_loadCellsFrom _ _ _ _) fun _ => trivial
  · exact fun _ => trivial
theorem keeps_newRow (t : TypeId) (cs : Array Value) : Keeps (newRow t cs) := by
  unfold newRow newObj
  exact fun _ => trivial
theorem keeps_newVar (t : TypeId) (v : Value) : Keeps (newVar t v) := keeps_newRow t _

/-- The kinds of operations that are known to leave every cell. -/
def keepsB (o : Oper) : Bool :=
  match o.op with
  | .move _ | .assign _ | .pick .. | .alloc _ | .box .. | .load .. | .buildSlice .. | .extract .. => true
  | _ => false
theorem keepsB_spec {P : Program} {o : Oper} (h : keepsB o = true) (ρ : Operand → Value) (w w' : World) (x : Next) (hr : (execOp ρ o).run P w = .ok x w') : (∃ u, x = .value u) ∧ CellsGo w w' := by
  have main : ∀ s : Sem Value, Keeps s → execOp ρ o = (do pure (.value (← s))) → (∃ u, x = .value u) ∧ CellsGo w w' := by
    intro s hs e
    rw [e] at hr
    refine ⟨?_, Keeps.run _ w (Keeps.bind _ _ hs fun _ => keeps_pure _) x w' hr⟩
    simp only [Sem.run_bind, Sem.run_pure] at hr
    cases hx : s.run P w with
    | ok v w2 =>
      rw [hx] at hr
      simp only [Result.andThen_ok, Result.ok.injEq] at hr
      exact ⟨v, hr.1.symm⟩
    | halt e w2 => rw [hx] at hr; cases hr
  unfold keepsB at h
  cases ho : o.op with
  | move y =>
    refine main (pure (ρ y)) trivial ?_
    unfold execOp; rw [ho]; rfl
  | assign y =>
    refine main (pure (ρ y)) trivial ?_
    unfold execOp; rw [ho]; rfl
  | pick c a b =>
    refine main (do pure (if ← asBool (ρ c) then ρ a else ρ b)) ?_ ?_
    · refine Keeps.bind _ _ ?_ (fun _ => trivial)
      unfold asBool
      split <;> exact trivial
    · unfold execOp
      rw [ho]
      cases hc : ρ c <;> simp [asBool, stuck, hc] <;> rfl
  | alloc t =>
    refine main (Instr.alloc t true (.tuple #[])) ?_ ?_
    · unfold Instr.alloc
      exact Keeps.bind _ _ (keeps_zeroValue t) fun z => Keeps.bind _ _ (keeps_newVar t z) fun _ => trivial
    · unfold execOp; rw [ho]
  | box t y =>
    refine main (Instr.box t (ρ y)) (Keeps.bind _ _ (keeps_newVar t _) fun _ => trivial) ?_
    unfold execOp; rw [ho]
  | load t y =>
    refine main (Instr.loadAt t (ρ y)) (Keeps.bind _ _ ?_ fun _ => keeps_loadVar _ _) ?_
    · unfold Instr.sureAddr
      split <;> exact trivial
    · unfold execOp; rw [ho]
  | buildSlice t n ps =>
    refine main (Instr.buildSlice t n (ps.map fun (i, x) => (i, ρ x))) ?_ ?_
    · unfold Instr.buildSlice
      refine Keeps.bind _ _ (keeps_underlying t) (fun d => ?_)
      split
      · refine Keeps.bind _ _ (keeps_sizeOf _) (fun sz => ?_)
        dsimp only
        split
        · exact trivial
        · split
          · refine Keeps.bind _ _ (keeps_pure _) (fun z => ?_)
            split
            · exact Keeps.bind _ _ (keeps_newRow _ _) fun _ => keeps_pure _
            · exact trivial
          · refine Keeps.bind _ _ (keeps_zeroValue _) (fun v => Keeps.bind _ _ (keeps_pure _) (fun z => ?_))
            split
            · exact Keeps.bind _ _ (keeps_newRow _ _) fun _ => keeps_pure _
            · exact trivial
      · exact trivial
    · unfold execOp; rw [ho]
  | extract y i =>
    refine main (Instr.extract (ρ y) i) ?_ ?_
    · unfold Instr.extract
      split
      · split <;> exact trivial
      · exact trivial
    · unfold execOp; rw [ho]
  | _ => rw [ho] at h; cases h

/-! ### reads first -/
section
variable {P : Program} {ops : Array Oper} {Q : Exit → Act → World → Prop} {a : Act} {w w0 w1 : World} {o : Oper} {n d t : Nat} {v : Value} {l : List (Nat × Value)} {j e : Nat → Value} {H : HProp} {md : Region.Mode} {Df : List Deferred}
/-- A panic is told without looking at the slots. -/
def PanInv (Q : Exit → Act → World → Prop) : Prop := ∀ ch (a : Act) w dst v, Q (.panic ch) (a.put dst v) w → Q (.panic ch) a w
theorem paninv_body {fn : Func} {R : Ending → World → Prop} : PanInv (bodyPost P fn R) := by
  intro ch a w dst v h
  cases dst <;> exact h
theorem paninv_then {K : Act → World → Prop} (h : PanInv Q) : PanInv (Exit.then K Q) := fun ch a w dst v k => h ch a w dst v k
theorem paninv_block {i : Nat} (h : PanInv Q) : PanInv (Exit.inBlock i Q) := fun ch a w dst v k => h ch a w dst v k

def YD (P : Program) (ops : Array Oper) (D : World → Prop) (o : Oper) (v : Value) (a : Act) : Prop :=
  (Region.wanted o (yielded ops a.tmps) = true ∧ ∀ w, D w → (execOp a.eval o).run P w = .ok (.value v) w) ∨ (Region.wanted o (yielded ops a.tmps) = false ∧ v = undef)
theorem YD.of_same {D : World → Prop} {a' : Act} (hy : YD P ops D o v a) (he : execOp a'.eval o = execOp a.eval o)
    (hw : Region.wanted o (yielded ops a'.tmps) = Region.wanted o (yielded ops a.tmps)) : YD P ops D o v a' := by
  unfold YD at *; rw [he, hw]; exact hy
theorem YD.wpOp {D : World → Prop} {i : Nat} (hi : ops[i]? = some o) (hy : YD P ops D o v a) (hD : D w) {K : Act → World → Prop} (h : K (a.put o.dst v) w) : wpOp P ops Q i K a w := by
  unfold Go.wpOp
  simp only [hi]
  rcases hy with ⟨hw, hv⟩ | ⟨hw, rfl⟩
  · rw [if_pos hw]
    left
    unfold Oper.wp
    rw [hv w hD]
    exact h
  · rw [if_neg (by rw [hw]; decide)]
    exact h

def canB (md : Region.Mode) (ops : Array Oper) (listed : Array Bool) (i : Nat) : Nat → Nat → Bool
  | 0, _ => true
  | f + 1, k => k != i && match ops[k]? with
    | none => false
    | some ok => ok.after.all fun e => !Region.binds md e || listed.getD e.on false || canB md ops listed i f e.on
def presB (md : Region.Mode) (ops : Array Oper) (listed : Array Bool) (i : Nat) : Bool :=
  (List.range ops.size).all fun k => k == i || listed.getD k true || !canB md ops listed i ops.size k || match ops[k]? with | some ok => keepsB ok | none => true

theorem wpOp_putD {D : World → Prop} {k : Nat} {oi ok : Oper} (hk : ops[k]? = some ok) (hap : oi.apart ops ok = true) (hpi : PanInv Q)
    (hsi : ∀ cs b, oi.op ≠ .select cs b) (hsk : ∀ cs b, ok.op ≠ .select cs b) (hDk : ∀ w w', CellsGo w w' → D w → D w') (hpres : (∀ w, D w) ∨ keepsB ok = true) (hD : D w) {K : Act → World → Prop}
    (hy : YD P ops D oi v a) (h : wpOp P ops Q k K (a.put oi.dst v) w) : wpOp P ops Q k (fun a w => D w ∧ YD P ops D oi v a ∧ K (a.put oi.dst v) w) a w := by
  obtain ⟨h1, h2, h3⟩ := Oper.apart_spec hap
  have keep : ∀ (a : Act), YD P ops D oi v a → ∀ u, YD P ops D oi v (a.put ok.dst u) := fun a hy u => hy.of_same (execOp_put oi hsi a ok.dst u h3) (wanted_put oi a ok.dst u h3)
  unfold wpOp at *
  simp only [hk] at *
  rw [wanted_put ok a oi.dst v h1] at h
  by_cases hw : Region.wanted ok (yielded ops a.tmps) = true
  · rw [if_pos hw] at h ⊢
    rcases h with h | h
    · left
      unfold Oper.wp at *
      rw [execOp_put ok hsk a oi.dst v h1] at h
      have hkeep := fun (hb : keepsB ok = true) x w' hr => keepsB_spec (P := P) hb a.eval w w' x hr
      generalize (execOp a.eval ok).run P w = r at *
      cases r with
      | ok x w' =>
        have hD' : D w' := by
          rcases hpres with hall | hb
          · exact hall w'
          · exact hDk w w' (hkeep hb x w' rfl).2 hD
        cases x <;> simp only [Oper.upon] at h ⊢
        case value u => exact ⟨hD', keep a hy u, by rw [← Act.put_comm a v u h2]; exact h⟩
        case skip => exact ⟨hD', keep a hy _, by rw [← Act.put_comm a v undef h2]; exact h⟩
        case defer df =>
          refine ⟨hD', ?_, ?_⟩
          · have : YD P ops D oi v ({ a with defers := df :: a.defers } : Act) := hy
            exact keep _ this _
          · have e := Act.put_comm ({ a with defers := df :: a.defers } : Act) v undef h2
            rw [← e]
            have e2 : ({ (a.put oi.dst v) with defers := df :: (a.put oi.dst v).defers } : Act) = ({ a with defers := df :: a.defers } : Act).put oi.dst v := by cases oi.dst <;> rfl
            rw [← e2]
            exact h
        case enter f args =>
          rcases hpres with hall | hb
          · refine h.mono fun e w'' he => ?_
            cases e with
            | returned u => exact ⟨hall _, keep a hy u, by rw [← Act.put_comm a v u h2]; exact he⟩
            | panicked ch => exact hpi ch a w'' _ _ he
            | outgrown => exact he
          · obtain ⟨⟨u, hu⟩, _⟩ := hkeep hb _ _ rfl
            cases hu
        case row rw' args =>
          rcases hpres with hall | hb
          · refine h.mono fun u w'' he => ?_
            exact ⟨hall _, keep a hy u, by rw [← Act.put_comm a v u h2]; exact he⟩
          · obtain ⟨⟨u, hu⟩, _⟩ := hkeep hb _ _ rfl
            cases hu
      | halt x w' =>
        cases x <;> simp only [Oper.upon] at h ⊢
        exact hpi _ a w' _ _ h
    · right
      refine ⟨?_, h.2⟩
      have := h.1
      unfold Oper.asks at *
      rw [execOp_put ok hsk a oi.dst v h1] at this
      exact this
  · rw [if_neg hw] at h ⊢
    exact ⟨hD, keep a hy _, by rw [← Act.put_comm a v undef h2]; exact h⟩

theorem wpAny_firstD {D : World → Prop} {i : Nat} {oi : Oper} (hi : ops[i]? = some oi) (hpi : PanInv Q) (hsel : ∀ (k : Nat) (o : Oper) cs b, ops[k]? = some o → o.op ≠ .select cs b) (hDk : ∀ w w', CellsGo w w' → D w → D w')
    (listed0 : Array Bool) (hpres : (∀ w, D w) ∨ presB md ops listed0 i = true) :
    ∀ (fuel : Nat) (listed : Array Bool) (a : Act) (w : World),
      (∀ k ok, ops[k]? = some ok → k ≠ i → listed.getD k true = false → (∀ e ∈ ok.after, Region.binds md e = true → e.on ≠ i) → oi.apart ops ok = true) →
      (∀ k, listed.getD k true = false → listed0.getD k true = false) →
      (∀ k, listed.getD k false = true → listed0.getD k false = true ∨ ∀ f, canB md ops listed0 i f k = true) →
      i ∈ Region.ready md ops listed → D w → YD P ops D oi v a →
      wpAny P md ops Q fuel (listed.setIfInBounds i true) (a.put oi.dst v) w → wpAny P md ops Q (fuel + 1) listed a w := by
  intro fuel
  have hcan : ∀ (listed : Array Bool), (∀ k, listed.getD k false = true → listed0.getD k false = true ∨ ∀ f, canB md ops listed0 i f k = true) → ∀ k ok, ops[k]? = some ok → k ≠ i → (∀ e ∈ ok.after, Region.binds md e = true → listed.getD e.on false = true) → ∀ f, canB md ops listed0 i f k = true := by
    intro listed hl k ok hk hki hall f
    cases f with
    | zero => rfl
    | succ f =>
      simp only [canB, hk, Bool.and_eq_true, bne_iff_ne, ne_eq, hki, not_false_eq_true, true_and]
      rw [Array.all_eq_true_iff_forall_mem]
      intro e he
      by_cases hb : Region.binds md e = true
      · rcases hl _ (hall e he hb) with h | h
        · simp [h]
        · simp [h f]
      · simp [hb]
  have hp : ∀ (listed : Array Bool), (∀ k, listed.getD k true = false → listed0.getD k true = false) → (∀ k, listed.getD k false = true → listed0.getD k false = true ∨ ∀ f, canB md ops listed0 i f k = true) → ∀ k ok, ops[k]? = some ok → k ≠ i → listed.getD k true = false → (∀ e ∈ ok.after, Region.binds md e = true → listed.getD e.on false = true) → (∀ w, D w) ∨ keepsB ok = true := by
    intro listed hl0 hl k ok hk hki hun hall
    rcases hpres with h | h
    · exact .inl h
    · right
      have hc := hcan listed hl k ok hk hki hall ops.size
      have h1 := List.all_eq_true.1 h k (List.mem_range.2 (Array.getElem?_eq_some_iff.1 hk).1)
      simp only [hk, Bool.or_eq_true, beq_iff_eq, hki, false_or, hl0 k hun, Bool.false_eq_true, hc, Bool.not_true] at h1
      exact h1
  induction fuel with
  | zero =>
    intro listed a w _ _ _ hr hD hy H
    refine ⟨fun h => (by rw [h] at hr; cases hr), fun k hk => ?_⟩
    by_cases hki : k = i
    · subst hki; exact hy.wpOp hi hD H
    · have := ready_mono hk hki
      rw [H.1] at this
      cases this
  | succ fuel ih =>
    intro listed a w hfree hl0 hl hr hD hy H
    refine ⟨fun h => (by rw [h] at hr; cases hr), fun k hk => ?_⟩
    by_cases hki : k = i
    · subst hki; exact hy.wpOp hi hD H
    · have h1 := H.2 k (ready_mono hk hki)
      obtain ⟨hkun, ok, hok, hall⟩ := mem_ready.1 hk
      have hnot : ∀ e ∈ ok.after, Region.binds md e = true → e.on ≠ i := fun e he hb heq => by
        have h1 := hall e he hb
        have h0 := (mem_ready.1 hr).1
        rw [heq] at h1
        rcases Nat.lt_or_ge i listed.size with h' | h'
        · simp [h'] at h0 h1; rw [h0] at h1; cases h1
        · simp [Array.getElem?_eq_none h'] at h1
      have h2 := wpOp_putD hok (hfree k ok hok hki hkun hnot) hpi (fun cs b => hsel i oi cs b hi) (fun cs b => hsel k ok cs b hok) hDk (hp listed hl0 hl k ok hok hki hkun hall) hD hy h1
      have hfree' : ∀ m om, ops[m]? = some om → m ≠ i → (listed.setIfInBounds k true).getD m true = false →
          (∀ e ∈ om.after, Region.binds md e = true → e.on ≠ i) → oi.apart ops om = true := fun m om hm hmi hun hno => by
        refine hfree m om hm hmi ?_ hno
        by_cases hkm : k = m
        · subst hkm; exact hkun
        · rw [getD_set_ne true hkm] at hun; exact hun
      have hl0' : ∀ m, (listed.setIfInBounds k true).getD m true = false → listed0.getD m true = false := fun m hm => by
        by_cases hkm : k = m
        · subst hkm; exact hl0 k hkun
        · rw [getD_set_ne true hkm] at hm; exact hl0 m hm
      have hl' : ∀ m, (listed.setIfInBounds k true).getD m false = true → listed0.getD m false = true ∨ ∀ f, canB md ops listed0 i f m = true := fun m hm => by
        by_cases hkm : k = m
        · subst hkm; exact .inr (hcan listed hl k ok hok hki hall)
        · rw [getD_set_ne false hkm] at hm; exact hl m hm
      refine wpOp_mono (fun a' w' h3 => ih (listed.setIfInBounds k true) a' w' hfree' hl0' hl' (ready_mono hr (Ne.symm hki)) h3.1 h3.2.1 ?_) h2
      rw [Array.setIfInBounds_comm _ _ hki]
      exact h3.2.2

/-! ### the rules -/
theorem reg_any {id : Nat} {lo : List Oper} (hF : Fit w0 H w) (hm : P.follows .mixedOrders = true) (k : ∀ w, Fit w0 H w → wpAny P .any lo.toArray Q lo.toArray.size (Array.replicate lo.toArray.size false) a w) :
    (Code.region id lo.toArray true).wp P Q a w := wp_region_any hm (k _ hF.drew)
/-- A value that hangs on the slots alone. -/
theorem any_val {fuel i : Nat} {listed : Array Bool} (hi : ops[i]? = some o) (hpi : PanInv Q) (hns : Region.noSelect ops = true) (hrd : (Region.ready .any ops listed).contains i = true) (hfr : Region.free .any ops listed i = true)
    (hw : Region.wanted o (yielded ops a.tmps) = true) (hd : o.dst = some d) (hn : Nat.blt d n = true) (hr : RepD Df n (lk l j) a) (hrun : ∀ w, (execOp (evE (lk l j)) o).run P w = .ok (.value v) w)
    (k : ∀ a, RepD Df n (lk ((d, v) :: l) j) a → wpAny P .any ops Q fuel (listed.setIfInBounds i true) a w) : wpAny P .any ops Q (fuel + 1) listed a w := by
  refine wpAny_firstD (D := fun _ => True) (v := v) hi hpi (Region.noSelect_spec hns) (fun _ _ _ _ => trivial) listed (.inl fun _ => trivial) fuel listed a w (Region.free_spec hi hfr) (fun _ h => h) (fun _ h => .inl h) (by simpa using hrd) trivial ?_ ?_
  · exact .inl ⟨hw, fun w _ => by rw [hr.eval]; exact hrun w⟩
  · rw [hd]; exact k _ (hr.put d v hn)
theorem any_off {fuel i : Nat} {listed : Array Bool} (hi : ops[i]? = some o) (hpi : PanInv Q) (hns : Region.noSelect ops = true) (hrd : (Region.ready .any ops listed).contains i = true) (hfr : Region.free .any ops listed i = true)
    (hw : Region.wanted o (yielded ops a.tmps) = false) (hd : o.dst = some d) (hn : Nat.blt d n = true) (hr : RepD Df n (lk l j) a)
    (k : ∀ a, RepD Df n (lk ((d, undef) :: l) j) a → wpAny P .any ops Q fuel (listed.setIfInBounds i true) a w) : wpAny P .any ops Q (fuel + 1) listed a w := by
  refine wpAny_firstD (D := fun _ => True) (v := undef) hi hpi (Region.noSelect_spec hns) (fun _ _ _ _ => trivial) listed (.inl fun _ => trivial) fuel listed a w (Region.free_spec hi hfr) (fun _ h => h) (fun _ h => .inl h) (by simpa using hrd) trivial ?_ ?_
  · exact .inr ⟨hw, rfl⟩
  · rw [hd]; exact k _ (hr.put d undef hn)
/-- A value that hangs on cells that stay. -/
theorem any_load {fuel i : Nat} {listed : Array Bool} {b off : Nat} {cs : List Value} (hi : ops[i]? = some o) (hpi : PanInv Q) (hns : Region.noSelect ops = true) (hrd : (Region.ready .any ops listed).contains i = true) (hfr : Region.free .any ops listed i = true)
    (hpr : presB .any ops listed i = true) (hw : Region.wanted o (yielded ops a.tmps) = true) (hd : o.dst = some d) (hn : Nat.blt d n = true) (hr : RepD Df n (lk l j) a)
    (hc : heldC w b off cs) (hrun : ∀ w, heldC w b off cs → (execOp (evE (lk l j)) o).run P w = .ok (.value v) w)
    (k : ∀ a, RepD Df n (lk ((d, v) :: l) j) a → wpAny P .any ops Q fuel (listed.setIfInBounds i true) a w) : wpAny P .any ops Q (fuel + 1) listed a w := by
  have hDk : ∀ (cs : List Value) (off : Nat) (w w' : World), CellsGo w w' → heldC w b off cs → heldC w' b off cs := by
    intro cs
    induction cs with
    | nil => exact fun _ _ _ _ _ => trivial
    | cons u r ih => exact fun off w w' hg h => ⟨hg _ _ h.1, ih _ _ _ hg h.2⟩
  refine wpAny_firstD (D := fun w => heldC w b off cs) (v := v) hi hpi (Region.noSelect_spec hns) (hDk cs off) listed (.inr hpr) fuel listed a w (Region.free_spec hi hfr) (fun _ h => h) (fun _ h => .inl h) (by simpa using hrd) hc ?_ ?_
  · exact .inl ⟨hw, fun w hc => by rw [hr.eval]; exact hrun w hc⟩
  · rw [hd]; exact k _ (hr.put d v hn)
/-- The one operation that is ready. -/
theorem any_one {fuel i : Nat} {listed : Array Bool} (hrd : Region.ready .any ops listed = [i]) (hi : ops[i]? = some o)
    (k : wpList P ops (Exit.then (fun a w => wpAny P .any ops Q fuel (listed.setIfInBounds i true) a w) Q) [o] a w) : wpAny P .any ops Q (fuel + 1) listed a w := by
  refine ⟨(fun h => by rw [hrd] at h; cases h), fun k' hk' => ?_⟩
  rw [hrd, List.mem_singleton] at hk'
  subst hk'
  unfold wpOp
  simp only [hi]
  unfold wpList at k
  have hlo : LetsOut (Exit.then (fun a w => wpAny P .any ops Q fuel (listed.setIfInBounds k' true) a w) Q) → LetsOut Q := fun ⟨a, w, h⟩ => ⟨a, w, h⟩
  have hmo : ∀ {x : Act} {y : World} {K : Act → World → Prop}, o.wp P x y K (Exit.then (fun a w => wpAny P .any ops Q fuel (listed.setIfInBounds k' true) a w) Q) → o.wp P x y K Q := by
    intro x y K h
    unfold Oper.wp at *
    generalize (execOp x.eval o).run P y = r at *
    cases r with
    | ok z w' =>
      cases z <;> simp only [Oper.upon] at h ⊢ <;> first
        | exact h
        | (refine h.mono fun e w'' he => ?_
           cases e with
           | returned u => exact he
           | panicked ch => exact he
           | outgrown => exact hlo he)
    | halt z w' => cases z <;> simp only [Oper.upon] at h ⊢ <;> exact h
  split
  · rename_i hw
    rw [if_pos hw] at k
    rcases k with k | k
    · exact .inl (Oper.wp_mono (fun _ _ h => h) (hmo k))
    · exact .inr ⟨k.1, hlo k.2⟩
  · rename_i hw
    rw [if_neg hw] at k
    exact k
theorem any_end {fuel : Nat} {listed : Array Bool} (hrd : Region.ready .any ops listed = []) (k : Q .normal a w) : wpAny P .any ops Q fuel listed a w := by
  cases fuel with
  | zero => exact ⟨hrd, k⟩
  | succ f => exact ⟨fun _ => k, fun i hi => by rw [hrd] at hi; cases hi⟩
end
end Go.Proofs.YtpikpffbcjpmcaaGreatDoor.GX

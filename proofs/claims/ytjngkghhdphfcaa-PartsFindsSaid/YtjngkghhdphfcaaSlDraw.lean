/- A part of the proof: words and contracts that the row is built on. -/
import Derived.Test.YtjngkghhdphfcaaSlEnc
namespace Go.Sl
open Go.RowKit
set_option linter.unusedVariables false
set_option linter.unusedSimpArgs false
/-! ### Regions that draw their order -/
section
variable {P : Program} {ops : Array Oper} {Q : Exit → Act → World → Prop} {S : World → Prop} {E : List Nat}
/-- Whatever comes up; behind all but the operations of E the world meets S. -/
def AnyE (P : Program) (ops : Array Oper) (Q : Exit → Act → World → Prop) (E : List Nat) (S : World → Prop) : Nat → Array Bool → Act → World → Prop
  | 0, listed, a, w => Region.ready .any ops listed = [] ∧ Q .normal a w
  | n + 1, listed, a, w => (Region.ready .any ops listed = [] → Q .normal a w) ∧ ∀ i ∈ Region.ready .any ops listed, wpOp P ops Q i (fun a' w' => (i ∉ E → S w') ∧ AnyE P ops Q E S n (listed.setIfInBounds i true) a' w') a w
theorem any_of_anyE : ∀ (n : Nat) (listed : Array Bool) (a : Act) (w : World), AnyE P ops Q E S n listed a w → wpAny P .any ops Q n listed a w
  | 0, _, _, _, h => h
  | n + 1, _, _, _, h => ⟨h.1, fun i hi => wpOp_mono (fun a' w' h' => any_of_anyE n _ a' w' h'.2) (h.2 i hi)⟩
/-- Each operation of E that has not come up waits for i. -/
def waits (ops : Array Oper) (E : List Nat) (listed : Array Bool) (i : Nat) : Bool := E.all fun j => j != i && (listed.getD j true || match ops[j]? with
  | some o => o.after.any fun e => Region.binds .any e && e.on == i
  | none => true)
theorem anyE_first {i : Nat} {oi : Oper} {v : Value} (hi : ops[i]? = some oi) (hsel : ∀ (j : Nat) (o : Oper) cs b, ops[j]? = some o → o.op ≠ .select cs b) (hQ : ∀ c a w, Q (.panic c) (a.put oi.dst v) w → Q (.panic c) a w) :
    ∀ (n : Nat) (listed : Array Bool) (a : Act) (w : World), (∀ j oj, ops[j]? = some oj → j ≠ i → listed.getD j true = false → (∀ e ∈ oj.after, Region.binds .any e = true → e.on ≠ i) → oi.apart ops oj = true) →
      (∀ j oj, j ∈ E → ops[j]? = some oj → listed.getD j true = false → ∃ e ∈ oj.after, Region.binds .any e = true ∧ e.on = i) → i ∉ E →
      i ∈ Region.ready .any ops listed → YieldsIf P ops S oi v a → S w → AnyE P ops Q E S n (listed.setIfInBounds i true) (a.put oi.dst v) w → AnyE P ops Q E S (n + 1) listed a w := by
  intro n
  induction n with
  | zero =>
    intro listed a w _ _ hiE hr hy hS H
    refine ⟨fun h => (by rw [h] at hr; cases hr), fun j hj => ?_⟩
    by_cases hji : j = i
    · subst hji; exact hy.wpOp hi hS ⟨fun _ => hS, H⟩
    · have := ready_mono hj hji
      rw [H.1] at this; cases this
  | succ n ih =>
    intro listed a w hfree hwait hiE hr hy hS H
    refine ⟨fun h => (by rw [h] at hr; cases hr), fun j hj => ?_⟩
    by_cases hji : j = i
    · subst hji; exact hy.wpOp hi hS ⟨fun _ => hS, H⟩
    · have h1 := H.2 j (ready_mono hj hji)
      obtain ⟨hjun, oj, hoj, hall⟩ := mem_ready.1 hj
      have hiun : listed.getD i false = false := by
        have h0 := (mem_ready.1 hr).1
        rw [Array.getD_eq_getD_getElem?] at h0 ⊢
        cases h : listed[i]? with
        | none => rfl
        | some b => rw [h] at h0; exact h0
      have hnot : ∀ e ∈ oj.after, Region.binds .any e = true → e.on ≠ i := fun e he hb heq => by
        have h2 := hall e he hb
        rw [heq, hiun] at h2; cases h2
      have hjE : j ∉ E := fun hm => by
        obtain ⟨e, he, hb, heq⟩ := hwait j oj hm hoj hjun
        exact hnot e he hb heq
      have h2 := wpOp_putIf hoj (hfree j oj hoj hji hjun hnot) (fun cs b => hsel i oi cs b hi) (fun cs b => hsel j oj cs b hoj) hQ hy h1
      refine wpOp_mono (fun a' w' h3 => ⟨h3.2.1, ih (listed.setIfInBounds j true) a' w' ?_ ?_ hiE (ready_mono hr (Ne.symm hji)) h3.1 (h3.2.1 hjE) ?_⟩) h2
      · intro k ok hk hki hun hno
        refine hfree k ok hk hki ?_ hno
        by_cases hjk : j = k
        · subst hjk; exact hjun
        · rw [getD_set_ne true hjk] at hun; exact hun
      · intro k ok hkE hk hun
        refine hwait k ok hkE hk ?_
        by_cases hjk : j = k
        · subst hjk; exact hjun
        · rw [getD_set_ne true hjk] at hun; exact hun
      · rw [Array.setIfInBounds_comm _ _ hji]
        exact h3.2.2
theorem waits_spec {i : Nat} {listed : Array Bool} (h : waits ops E listed i = true) : (∀ j oj, j ∈ E → ops[j]? = some oj → listed.getD j true = false → ∃ e ∈ oj.after, Region.binds .any e = true ∧ e.on = i) ∧ i ∉ E := by
  unfold waits at h
  rw [List.all_eq_true] at h
  refine ⟨fun j oj hj hoj hun => ?_, fun hm => ?_⟩
  · have := h j hj
    simp only [hoj, hun, Bool.false_or, Bool.and_eq_true] at this
    obtain ⟨e, he, hb⟩ := Array.any_eq_true'.1 this.2
    simp only [Bool.and_eq_true, beq_iff_eq] at hb
    exact ⟨e, he, hb.1, hb.2⟩
  · have := h i hm
    simp at this
end
section
variable {c : Cx} {ops : Array Oper} {i : Nat} {K : Act → World → Prop} {T : List Item} {L : List (Nat × Value)} {H Hs : List Chunk} {n : Nat} {listed : Array Bool} {E : List Nat}
/-- These chunks are there. -/
def stab (c : Cx) (Hs : List Chunk) : World → Prop := fun w => ∃ H', Heap c.w0 c.G (Hs ++ H') w
theorem Heap.front {w0 w : World} {G : List Nat} {H Hs : List Chunk} (ks : List Nat) (h : Heap w0 G H w) (hk : pickH H ks = some Hs) : Heap w0 G (Hs ++ dropH H ks) w :=
  ⟨h.kept, (h.hp.pickH hk).append (h.hp.dropH (ks := ks)) fun g hg => pick_drop h.hp hk hg⟩
/-- Whatever comes up, in a state that is so. -/
abbrev Sd (c : Cx) (ops : Array Oper) (E : List Nat) (Hs : List Chunk) (n : Nat) (listed : Array Bool) (T : List Item) (L : List (Nat × Value)) (H : List Chunk) : Prop := Rk c (AnyE c.P ops (QN c T) E (stab c Hs) n listed) L H
theorem st_draw {id : Nat} (E : List Nat) (Hs : List Chunk) (hm : c.P.follows .mixedOrders = true) (hn : noDefer c.rd ops = true) (h : Sd c ops E Hs ops.size (Array.replicate ops.size false) T L H) : St c (.code (.region id ops true) :: T) L H := fun a w ha hw =>
  .via fun cs => ⟨a, { w with drawn := w.drawn + 1 }, GoA.of_ops hn (by
    have h1 := any_of_anyE _ _ _ _ (h a _ ha (hw.alike (w' := { w with drawn := w.drawn + 1 }) rfl rfl rfl rfl))
    have h2 := wpAny_sound ops.size (w.tape w.drawn (.order c.base.fn id)) _ a _ h1
    simp only [Region.schedule, hm, Bool.true_or, if_true]
    exact h2), .one stepR_region_draw⟩
/-- A value that is known in every world with these chunks. -/
def PV (c : Cx) (L : List (Nat × Value)) (H : List Chunk) (o : Oper) (v : Value) : Prop := ∀ a w, Fr c.F L a → Heap c.w0 c.G H w → (execOp a.eval o).run c.P w = .ok (.value v) w
section
variable {d : Nat} {op : Op} {ty : TypeId} {pos : String} {aft : Array Edge} {g : Option (Nat × Bool)} {v : Value}
theorem sd_take (ks : List Nat) (i : Nat) (ho : ops[i]? = some ⟨some d, op, ty, pos, aft, g⟩) (hw : wants ops L g = some true) (hN : Nat.blt d c.N = true) (hp : ∀ H', PV c L (Hs ++ H') ⟨some d, op, ty, pos, aft, g⟩ v) (hs : Region.noSelect ops = true)
    (hf : Region.free .any ops listed i = true) (hr : (Region.ready .any ops listed).contains i = true) (hE : waits ops E listed i = true) (hk : pickH H ks = some Hs) (h : Sd c ops E Hs n (listed.setIfInBounds i true) T ((d, v) :: L) H) : Sd c ops E Hs (n + 1) listed T L H := fun a w ha hh => by
  have hw' := waits_spec hE
  refine anyE_first ho (Region.noSelect_spec hs) (fun ch a w hq => by cases hq.1) n listed a w (Region.free_spec ho hf) hw'.1 hw'.2 (by simpa using hr) (v := v) (.inl ⟨ha.wants (o := ⟨some d, op, ty, pos, aft, g⟩) hw, fun w1 ⟨H', h1⟩ => hp H' a w1 ha h1⟩) ⟨_, hh.front ks hk⟩ (h _ w (ha.put hN v) hh)
theorem sd_off (ks : List Nat) (i : Nat) (ho : ops[i]? = some ⟨some d, op, ty, pos, aft, g⟩) (hw : wants ops L g = some false) (hN : Nat.blt d c.N = true) (hs : Region.noSelect ops = true)
    (hf : Region.free .any ops listed i = true) (hr : (Region.ready .any ops listed).contains i = true) (hE : waits ops E listed i = true) (hk : pickH H ks = some Hs) (h : Sd c ops E Hs n (listed.setIfInBounds i true) T ((d, undef) :: L) H) : Sd c ops E Hs (n + 1) listed T L H := fun a w ha hh => by
  have hw' := waits_spec hE
  refine anyE_first ho (Region.noSelect_spec hs) (fun ch a w hq => by cases hq.1) n listed a w (Region.free_spec ho hf) hw'.1 hw'.2 (by simpa using hr) (v := undef) (.inr ⟨ha.wants (o := ⟨some d, op, ty, pos, aft, g⟩) hw, rfl⟩) ⟨_, hh.front ks hk⟩ (h _ w (ha.put hN undef) hh)
end
/-- Just one may come up. -/
theorem sd_one (i : Nat) (hr : Region.ready .any ops listed = [i]) (h : Rk c (wpOp c.P ops (QN c T) i (fun a' w' => (i ∉ E → stab c Hs w') ∧ AnyE c.P ops (QN c T) E (stab c Hs) n (listed.setIfInBounds i true) a' w')) L H) : Sd c ops E Hs (n + 1) listed T L H := fun a w ha hh =>
  ⟨fun h0 => (by rw [hr] at h0; cases h0), fun j hj => by
    rw [hr] at hj
    obtain rfl : j = i := by simpa using hj
    exact h a w ha hh⟩
/-- One of two. -/
theorem sd_two (i j : Nat) (hr : Region.ready .any ops listed = [i, j]) (h : Rk c (wpOp c.P ops (QN c T) i (fun a' w' => (i ∉ E → stab c Hs w') ∧ AnyE c.P ops (QN c T) E (stab c Hs) n (listed.setIfInBounds i true) a' w')) L H)
    (h' : Rk c (wpOp c.P ops (QN c T) j (fun a' w' => (j ∉ E → stab c Hs w') ∧ AnyE c.P ops (QN c T) E (stab c Hs) n (listed.setIfInBounds j true) a' w')) L H) : Sd c ops E Hs (n + 1) listed T L H := fun a w ha hh =>
  ⟨fun h0 => (by rw [hr] at h0; cases h0), fun k hk => by
    rw [hr] at hk
    simp only [List.mem_cons, List.not_mem_nil, or_false] at hk
    rcases hk with rfl | rfl
    · exact h a w ha hh
    · exact h' a w ha hh⟩
theorem sd_next (ks : List Nat) (hk : pickH H ks = some Hs) (h : Sd c ops E Hs n listed T L H) : Rk c (fun a' w' => (i ∉ E → stab c Hs w') ∧ AnyE c.P ops (QN c T) E (stab c Hs) n listed a' w') L H := fun a w ha hh => ⟨fun _ => ⟨_, hh.front ks hk⟩, h a w ha hh⟩
theorem sd_nextE (hi : E.contains i = true) (h : Sd c ops E Hs n listed T L H) : Rk c (fun a' w' => (i ∉ E → stab c Hs w') ∧ AnyE c.P ops (QN c T) E (stab c Hs) n listed a' w') L H := fun a w ha hh => ⟨fun h0 => absurd (by simpa using hi) h0, h a w ha hh⟩
theorem sd_end (hr : Region.ready .any ops listed = []) (h : St c T L H) : Sd c ops E Hs n listed T L H := fun a w ha hh => by
  cases n with
  | zero => exact ⟨hr, rfl, h a w ha hh⟩
  | succ n => exact ⟨fun _ => ⟨rfl, h a w ha hh⟩, by rw [hr]; simp⟩
theorem sd_case {t : Nat} {b : Bool} (ht : lk L t = some (.bool b)) (h1 : b = true → Sd c ops E Hs n listed T ((t, .bool true) :: L) H) (h2 : b = false → Sd c ops E Hs n listed T ((t, .bool false) :: L) H) : Sd c ops E Hs n listed T L H := sr_case ht h1 h2
theorem sd_caseD {t : Nat} {p : Prop} [Decidable p] (ht : lk L t = some (.bool (decide p))) (h1 : p → Sd c ops E Hs n listed T ((t, .bool true) :: L) H) (h2 : ¬ p → Sd c ops E Hs n listed T ((t, .bool false) :: L) H) : Sd c ops E Hs n listed T L H := sr_caseD ht h1 h2
end
end Go.Sl

/- Sets of whole numbers, as lists of parts: the one form. Plain: no program. -/
namespace Go.Sl
set_option linter.unusedVariables false
set_option linter.unusedSimpArgs false
def cover (l : List (Int × Int)) (z : Int) : Prop := ∃ p ∈ l, p.1 ≤ z ∧ z < p.2
@[simp] theorem cover_nil (z : Int) : cover [] z ↔ False := by simp [cover]
@[simp] theorem cover_cons (p : Int × Int) (l : List (Int × Int)) (z : Int) : cover (p :: l) z ↔ (p.1 ≤ z ∧ z < p.2) ∨ cover l z := by simp [cover]
@[simp] theorem cover_append (a b : List (Int × Int)) (z : Int) : cover (a ++ b) z ↔ cover a z ∨ cover b z := by
  simp only [cover, List.mem_append]
  constructor
  · rintro ⟨p, h | h, k⟩
    · exact .inl ⟨p, h, k⟩
    · exact .inr ⟨p, h, k⟩
  · rintro (⟨p, h, k⟩ | ⟨p, h, k⟩)
    · exact ⟨p, .inl h, k⟩
    · exact ⟨p, .inr h, k⟩
theorem cover_perm {a b : List (Int × Int)} (h : a.Perm b) (z : Int) : cover a z ↔ cover b z := by
  simp only [cover, h.mem_iff]
/-- The one form: no part is empty, each begins behind where the one ahead ends. -/
def Canon (l : List (Int × Int)) : Prop := (∀ p ∈ l, p.1 < p.2) ∧ l.Pairwise fun p q => p.2 < q.1
theorem Canon.nil : Canon [] := ⟨by simp, .nil⟩
theorem Canon.tail {p : Int × Int} {l : List (Int × Int)} (h : Canon (p :: l)) : Canon l := ⟨fun q hq => h.1 q (.tail _ hq), (List.pairwise_cons.1 h.2).2⟩
theorem Canon.behind {p : Int × Int} {l : List (Int × Int)} (h : Canon (p :: l)) {z : Int} (hz : cover l z) : p.2 < z := by
  obtain ⟨q, hq, h1, h2⟩ := hz
  have := (List.pairwise_cons.1 h.2).1 q hq
  omega
theorem canon_unique : ∀ {a b : List (Int × Int)}, Canon a → Canon b → (∀ z, cover a z ↔ cover b z) → a = b
  | [], [], _, _, _ => rfl
  | [], q :: b, _, hb, h => by
    have := hb.1 q (.head _)
    exact absurd ((h q.1).2 (by simp; omega)) (by simp)
  | p :: a, [], ha, _, h => by
    have := ha.1 p (.head _)
    exact absurd ((h p.1).1 (by simp; omega)) (by simp)
  | p :: a, q :: b, ha, hb, h => by
    have hp := ha.1 p (.head _)
    have hq := hb.1 q (.head _)
    have e1 : p.1 = q.1 := by
      have h1 := (h p.1).1 (by simp; omega)
      have h2 := (h q.1).2 (by simp; omega)
      simp only [cover_cons] at h1 h2
      rcases h1 with h1 | h1
      · rcases h2 with h2 | h2
        · omega
        · have := ha.behind h2; omega
      · have := hb.behind h1
        rcases h2 with h2 | h2
        · omega
        · have := ha.behind h2; omega
    have e2 : p.2 = q.2 := by
      rcases Int.lt_trichotomy p.2 q.2 with h1 | h1 | h1
      · have h2 := (h p.2).2 (by simp only [cover_cons]; left; omega)
        simp only [cover_cons] at h2
        rcases h2 with h2 | h2
        · omega
        · have := ha.behind h2; omega
      · exact h1
      · have h2 := (h q.2).1 (by simp only [cover_cons]; left; omega)
        simp only [cover_cons] at h2
        rcases h2 with h2 | h2
        · omega
        · have := hb.behind h2; omega
    have e : p = q := Prod.ext e1 e2
    subst e
    rw [canon_unique ha.tail hb.tail fun z => ?_]
    have hz := h z
    simp only [cover_cons] at hz
    constructor
    · intro hc
      have := ha.behind hc
      rcases hz.1 (.inr hc) with h1 | h1
      · omega
      · exact h1
    · intro hc
      have := hb.behind hc
      rcases hz.2 (.inr hc) with h1 | h1
      · omega
      · exact h1
/-- One part more, where all that is there begins no later. -/
def stepM (out : List (Int × Int)) (x : Int × Int) : List (Int × Int) :=
  if x.2 ≤ x.1 then out else if 0 < out.length ∧ x.1 ≤ (out.getD (out.length - 1) ((0, 0) : Int × Int)).2 then out.set (out.length - 1) ((out.getD (out.length - 1) ((0, 0) : Int × Int)).1, max (out.getD (out.length - 1) ((0, 0) : Int × Int)).2 x.2) else out ++ [x]
def mergeF (ys : List (Int × Int)) : List (Int × Int) := ys.foldl stepM []
theorem mergeF_succ {ys : List (Int × Int)} {k : Nat} (h : k < ys.length) : mergeF (ys.take (k + 1)) = stepM (mergeF (ys.take k)) (ys.getD k ((0, 0) : Int × Int)) := by
  have e : ys.take (k + 1) = ys.take k ++ [ys[k]] := by rw [List.take_append_getElem h]
  rw [e, mergeF, mergeF, List.foldl_append]
  simp [List.getD_eq_getElem?_getD, h]
theorem stepM_len (out : List (Int × Int)) (x : Int × Int) : (stepM out x).length ≤ out.length + 1 := by
  unfold stepM; split
  · omega
  · split <;> simp
theorem foldl_len : ∀ (ys : List (Int × Int)) (out : List (Int × Int)), (ys.foldl stepM out).length ≤ out.length + ys.length
  | [], out => by simp
  | y :: ys, out => by
    have h1 := foldl_len ys (stepM out y)
    have h2 := stepM_len out y
    simp only [List.foldl_cons, List.length_cons]; omega
theorem mergeF_len (ys : List (Int × Int)) : (mergeF ys).length ≤ ys.length := by
  have := foldl_len ys []; simp at this; exact this
theorem stepM_skip {out : List (Int × Int)} {x : Int × Int} (h : x.2 ≤ x.1) : stepM out x = out := by unfold stepM; rw [if_pos h]
theorem stepM_join {out : List (Int × Int)} {x : Int × Int} (h : ¬ x.2 ≤ x.1) (h1 : 0 < out.length) (h2 : x.1 ≤ (out.getD (out.length - 1) ((0, 0) : Int × Int)).2) : stepM out x = out.set (out.length - 1) ((out.getD (out.length - 1) ((0, 0) : Int × Int)).1, max (out.getD (out.length - 1) ((0, 0) : Int × Int)).2 x.2) := by
  unfold stepM; rw [if_neg h, if_pos ⟨h1, h2⟩]
theorem stepM_new {out : List (Int × Int)} {x : Int × Int} (h : ¬ x.2 ≤ x.1) (h1 : ¬ (0 < out.length ∧ x.1 ≤ (out.getD (out.length - 1) ((0, 0) : Int × Int)).2)) : stepM out x = out ++ [x] := by
  unfold stepM; rw [if_neg h, if_neg h1]
theorem stepM_good {out : List (Int × Int)} {x : Int × Int} (hc : Canon out) (hx : ∀ p ∈ out, p.1 ≤ x.1) : Canon (stepM out x) ∧ (∀ z, cover (stepM out x) z ↔ cover out z ∨ (x.1 ≤ z ∧ z < x.2)) ∧ ∀ p ∈ stepM out x, p.1 ≤ x.1 := by
  by_cases h : x.2 ≤ x.1
  · rw [stepM_skip h]
    exact ⟨hc, fun z => ⟨.inl, fun h1 => h1.elim id fun h2 => by omega⟩, hx⟩
  · rcases List.eq_nil_or_concat out with rfl | ⟨a, p, e⟩
    · rw [stepM_new h (by simp)]
      refine ⟨⟨fun p hp => ?_, by simp⟩, fun z => by simp, fun p hp => ?_⟩
      · simp at hp; subst hp; omega
      · simp at hp; subst hp; omega
    · simp only [List.concat_eq_append] at e
      subst e
      have hl : (a ++ [p]).length - 1 = a.length := by simp
      have hg : (a ++ [p]).getD a.length ((0, 0) : Int × Int) = p := by simp [List.getD_eq_getElem?_getD]
      have hp := hc.1 p (by simp)
      have hpx := hx p (by simp)
      obtain ⟨h1, h2, h3⟩ := List.pairwise_append.1 hc.2
      by_cases h4 : x.1 ≤ p.2
      · rw [stepM_join h (by simp) (by rw [hl, hg]; exact h4), hl, hg]
        have e : (a ++ [p]).set a.length (p.1, max p.2 x.2) = a ++ [(p.1, max p.2 x.2)] := by simp
        rw [e]
        refine ⟨⟨fun q hq => ?_, List.pairwise_append.2 ⟨h1, by simp, fun q hq r hr => ?_⟩⟩, fun z => ?_, fun q hq => ?_⟩
        · simp only [List.mem_append, List.mem_singleton] at hq
          rcases hq with hq | rfl
          · exact hc.1 q (by simp [hq])
          · simp only; omega
        · simp only [List.mem_singleton] at hr; subst hr
          exact h3 q hq p (by simp)
        · simp only [cover_append, cover_cons, cover_nil, or_false]
          constructor
          · rintro (h5 | h5)
            · exact .inl (.inl h5)
            · by_cases h6 : z < p.2
              · exact .inl (.inr ⟨h5.1, h6⟩)
              · exact .inr (by omega)
          · rintro ((h5 | h5) | h5)
            · exact .inl h5
            · exact .inr (by omega)
            · exact .inr (by omega)
        · simp only [List.mem_append, List.mem_singleton] at hq
          rcases hq with hq | rfl
          · exact hx q (by simp [hq])
          · exact hpx
      · rw [stepM_new h (by rw [hl, hg]; omega)]
        refine ⟨⟨fun q hq => ?_, List.pairwise_append.2 ⟨hc.2, by simp, fun q hq r hr => ?_⟩⟩, fun z => by simp [or_assoc], fun q hq => ?_⟩
        · simp only [List.mem_append, List.mem_singleton] at hq
          rcases hq with (hq | rfl) | rfl
          · exact hc.1 q (by simp [hq])
          · exact hp
          · omega
        · simp only [List.mem_singleton] at hr; subst hr
          simp only [List.mem_append, List.mem_singleton] at hq
          rcases hq with hq | rfl
          · have := h3 q hq p (by simp); omega
          · omega
        · simp only [List.mem_append, List.mem_singleton] at hq
          rcases hq with hq | rfl
          · exact hx q (by simpa using hq)
          · omega
theorem foldl_good : ∀ (ys : List (Int × Int)) (out : List (Int × Int)), ys.Pairwise (fun p q => p.1 ≤ q.1) → Canon out → (∀ p ∈ out, ∀ y ∈ ys, p.1 ≤ y.1) → Canon (ys.foldl stepM out) ∧ ∀ z, cover (ys.foldl stepM out) z ↔ cover out z ∨ cover ys z
  | [], out, _, hc, _ => ⟨hc, fun z => by simp⟩
  | y :: ys, out, hs, hc, hx => by
    obtain ⟨h1, h2, h3⟩ := stepM_good hc (fun p hp => hx p hp y (.head _))
    obtain ⟨h4, h5⟩ := List.pairwise_cons.1 hs
    obtain ⟨h6, h7⟩ := foldl_good ys (stepM out y) h5 h1 fun p hp q hq => by have := h3 p hp; have := h4 q hq; omega
    refine ⟨h6, fun z => ?_⟩
    rw [List.foldl_cons, h7 z, h2 z, cover_cons]
    constructor
    · rintro ((h | h) | h)
      · exact .inl h
      · exact .inr (.inl h)
      · exact .inr (.inr h)
    · rintro (h | h | h)
      · exact .inl (.inl h)
      · exact .inl (.inr h)
      · exact .inr h
theorem mergeF_good {ys : List (Int × Int)} (hs : ys.Pairwise fun p q => p.1 ≤ q.1) : Canon (mergeF ys) ∧ ∀ z, cover (mergeF ys) z ↔ cover ys z := by
  obtain ⟨h1, h2⟩ := foldl_good ys [] hs Canon.nil (by simp)
  exact ⟨h1, fun z => by rw [mergeF, h2 z]; simp⟩
/-- Sorted by where they begin. -/
def insE (x : Int × Int) : List (Int × Int) → List (Int × Int)
  | [] => [x]
  | y :: l => if x.1 ≤ y.1 then x :: y :: l else y :: insE x l
def sortE : List (Int × Int) → List (Int × Int)
  | [] => []
  | x :: l => insE x (sortE l)
theorem insE_perm (x : Int × Int) : ∀ l, (insE x l).Perm (x :: l)
  | [] => .refl _
  | y :: l => by
    unfold insE; split
    · exact .refl _
    · exact ((insE_perm x l).cons y).trans (.swap x y l)
theorem sortE_perm : ∀ l, (sortE l).Perm l
  | [] => .refl _
  | x :: l => (insE_perm x _).trans ((sortE_perm l).cons x)
theorem insE_sorted (x : Int × Int) : ∀ l, l.Pairwise (fun p q => p.1 ≤ q.1) → (insE x l).Pairwise fun p q => p.1 ≤ q.1
  | [], _ => by simp [insE]
  | y :: l, h => by
    obtain ⟨h1, h2⟩ := List.pairwise_cons.1 h
    unfold insE; split
    · rename_i hxy
      refine List.pairwise_cons.2 ⟨fun q hq => ?_, h⟩
      rcases List.mem_cons.1 hq with rfl | hq
      · exact hxy
      · have := h1 q hq; omega
    · rename_i hxy
      refine List.pairwise_cons.2 ⟨fun q hq => ?_, insE_sorted x l h2⟩
      rcases List.mem_cons.1 ((insE_perm x l).mem_iff.1 hq) with rfl | hq
      · omega
      · exact h1 q hq
theorem sortE_sorted : ∀ l, (sortE l).Pairwise fun p q => p.1 ≤ q.1
  | [] => .nil
  | x :: l => insE_sorted x _ (sortE_sorted l)
/-- The one form of parts, in whatever order. -/
def normF (xs : List (Int × Int)) : List (Int × Int) := mergeF (sortE xs)
theorem normF_canon (xs : List (Int × Int)) : Canon (normF xs) := (mergeF_good (sortE_sorted xs)).1
theorem normF_cover (xs : List (Int × Int)) (z : Int) : cover (normF xs) z ↔ cover xs z := by rw [normF, (mergeF_good (sortE_sorted xs)).2 z, cover_perm (sortE_perm xs)]
theorem normF_eq {xs ys : List (Int × Int)} (hp : ys.Perm xs) (hs : ys.Pairwise fun p q => p.1 ≤ q.1) : mergeF ys = normF xs :=
  canon_unique (mergeF_good hs).1 (normF_canon xs) fun z => by rw [(mergeF_good hs).2 z, normF_cover, cover_perm hp]
theorem normF_of {xs ys : List (Int × Int)} (hc : Canon ys) (h : ∀ z, cover ys z ↔ cover xs z) : normF xs = ys := canon_unique (normF_canon xs) hc fun z => by rw [normF_cover, h]
theorem normF_len (xs : List (Int × Int)) : (normF xs).length ≤ xs.length := by
  have := mergeF_len (sortE xs); rw [(sortE_perm xs).length_eq] at this; exact this
theorem normF_self {xs : List (Int × Int)} (h : Canon xs) : normF xs = xs := normF_of h fun z => Iff.rfl
/-- How many. -/
def sumE : List (Int × Int) → Int
  | [] => 0
  | p :: l => (p.2 - p.1) + sumE l
theorem sumE_append : ∀ (a b : List (Int × Int)), sumE (a ++ b) = sumE a + sumE b
  | [], b => by simp [sumE]
  | p :: a, b => by simp only [List.cons_append, sumE, sumE_append a b]; omega
theorem sumE_succ {l : List (Int × Int)} {k : Nat} (h : k < l.length) : sumE (l.take (k + 1)) = sumE (l.take k) + ((l.getD k ((0, 0) : Int × Int)).2 - (l.getD k ((0, 0) : Int × Int)).1) := by
  rw [List.take_add_one, sumE_append]
  simp [List.getD_eq_getElem?_getD, h, sumE]
/-- All within. -/
def Within (lo hi : Int) (l : List (Int × Int)) : Prop := ∀ p ∈ l, lo ≤ p.1 ∧ p.1 ≤ hi ∧ lo ≤ p.2 ∧ p.2 ≤ hi
theorem sumE_bound {lo hi : Int} : ∀ {l : List (Int × Int)}, Canon l → Within lo hi l → lo ≤ hi → 0 ≤ sumE l ∧ sumE l ≤ hi - lo
  | [], _, _, h => by simp [sumE]; omega
  | p :: l, hc, hw, h => by
    have h1 := hw p (.head _)
    have h2 := hc.1 p (.head _)
    have h3 := sumE_bound (lo := p.2) (hi := hi) hc.tail (fun q hq => by
      have h4 := hw q (.tail _ hq)
      have h5 := (List.pairwise_cons.1 hc.2).1 q hq
      have h6 := hc.1 q (.tail _ hq)
      omega) (by omega)
    simp only [sumE]; omega
theorem Canon.take {l : List (Int × Int)} (h : Canon l) (k : Nat) : Canon (l.take k) := ⟨fun p hp => h.1 p (List.mem_of_mem_take hp), h.2.sublist (List.take_sublist _ _)⟩
theorem Within.take {lo hi : Int} {l : List (Int × Int)} (h : Within lo hi l) (k : Nat) : Within lo hi (l.take k) := fun p hp => h p (List.mem_of_mem_take hp)
theorem normF_within {lo hi : Int} {xs : List (Int × Int)} (h : Within lo hi xs) : Within lo hi (normF xs) := fun p hp => by
  have hlt := (normF_canon xs).1 p hp
  obtain ⟨q, hq, h1, h2⟩ := (normF_cover xs p.1).1 ⟨p, hp, Int.le_refl _, hlt⟩
  obtain ⟨r, hr, h3, h4⟩ := (normF_cover xs (p.2 - 1)).1 ⟨p, hp, by omega, by omega⟩
  have := h q hq
  have := h r hr
  omega
theorem getD_mem {l : List (Int × Int)} {k : Nat} (h : k < l.length) : l.getD k ((0, 0) : Int × Int) ∈ l := by
  rw [List.getD_eq_getElem?_getD, List.getElem?_eq_getElem h]; exact List.getElem_mem h
def widE : List (Int × Int) → Int
  | [] => 0
  | p :: l => max 0 (p.2 - p.1) + widE l
theorem widE_append : ∀ (a b : List (Int × Int)), widE (a ++ b) = widE a + widE b
  | [], b => by simp [widE]
  | p :: a, b => by simp only [List.cons_append, widE, widE_append a b]; omega
theorem widE_succ {l : List (Int × Int)} {k : Nat} (h : k < l.length) : widE (l.take (k + 1)) = widE (l.take k) + max 0 ((l.getD k ((0, 0) : Int × Int)).2 - (l.getD k ((0, 0) : Int × Int)).1) := by
  rw [List.take_add_one, widE_append]
  simp [List.getD_eq_getElem?_getD, h, widE]
theorem widE_bound {hi : Int} : ∀ {l : List (Int × Int)}, Within (-hi) hi l → 0 ≤ hi → 0 ≤ widE l ∧ widE l ≤ l.length * (2 * hi)
  | [], _, _ => by simp [widE]
  | p :: l, hw, h => by
    have h1 := hw p (.head _)
    have h2 := widE_bound (l := l) (fun q hq => hw q (.tail _ hq)) h
    simp only [widE, List.length_cons]
    have : ((l.length + 1 : Nat) : Int) * (2 * hi) = l.length * (2 * hi) + 2 * hi := by
      rw [Int.natCast_add, Int.add_mul]; omega
    rw [this]
    omega
/-- Have no two a number in common? -/
def apartF (xs : List (Int × Int)) : Bool := decide (sumE (normF xs) = widE xs)
/-! ### What is in the first alone -/
def stepI (x2 : Int) (s : Int × List (Int × Int)) (y : Int × Int) : Int × List (Int × Int) := if y.2 ≤ s.1 ∨ x2 ≤ y.1 then s else (y.2, s.2 ++ [(s.1, y.1)])
def innerF (x : Int × Int) (out : List (Int × Int)) (l : List (Int × Int)) : Int × List (Int × Int) := l.foldl (stepI x.2) (x.1, out)
def perX (ys out : List (Int × Int)) (x : Int × Int) : List (Int × Int) := (innerF x out ys).2 ++ [((innerF x out ys).1, x.2)]
def outsF (xs ys : List (Int × Int)) : List (Int × Int) := xs.foldl (perX ys) []
def minusF (xs ys : List (Int × Int)) : List (Int × Int) := normF (outsF (normF xs) (normF ys))
theorem innerF_succ {x : Int × Int} {out l : List (Int × Int)} {k : Nat} (h : k < l.length) : innerF x out (l.take (k + 1)) = stepI x.2 (innerF x out (l.take k)) (l.getD k ((0, 0) : Int × Int)) := by
  have e : l.take (k + 1) = l.take k ++ [l[k]] := by rw [List.take_append_getElem h]
  rw [e, innerF, innerF, List.foldl_append]
  simp [List.getD_eq_getElem?_getD, h]
theorem outsF_succ {xs ys : List (Int × Int)} {k : Nat} (h : k < xs.length) : outsF (xs.take (k + 1)) ys = perX ys (outsF (xs.take k) ys) (xs.getD k ((0, 0) : Int × Int)) := by
  have e : xs.take (k + 1) = xs.take k ++ [xs[k]] := by rw [List.take_append_getElem h]
  rw [e, outsF, outsF, List.foldl_append]
  simp [List.getD_eq_getElem?_getD, h]
theorem stepI_len (x2 : Int) (s : Int × List (Int × Int)) (y : Int × Int) : (stepI x2 s y).2.length ≤ s.2.length + 1 := by
  unfold stepI; split <;> simp
theorem innerF_len : ∀ (x : Int × Int) (out l : List (Int × Int)), (innerF x out l).2.length ≤ out.length + l.length := by
  intro x out l
  have key : ∀ (l : List (Int × Int)) (s : Int × List (Int × Int)), (l.foldl (stepI x.2) s).2.length ≤ s.2.length + l.length := by
    intro l
    induction l with
    | nil => intro s; simp
    | cons y l ih =>
      intro s
      have h1 := ih (stepI x.2 s y)
      have h2 := stepI_len x.2 s y
      simp only [List.foldl_cons, List.length_cons]; omega
  exact key l (x.1, out)
theorem perX_len (ys out : List (Int × Int)) (x : Int × Int) : (perX ys out x).length ≤ out.length + ys.length + 1 := by
  have := innerF_len x out ys
  simp only [perX, List.length_append, List.length_singleton]; omega
end Go.Sl

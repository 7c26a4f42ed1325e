/- A part of the proof: words and contracts that the row is built on. -/
import Derived.Test.YtjngkghhdphfcaaSlFin
namespace Go.Sl
open Go.RowKit
set_option linter.unusedVariables false
set_option linter.unusedSimpArgs false
/-! ### A range over a function -/
def loopC (l : Nat) (r : Loop) : Chunk := ⟨some l, True, fun o => o = .loop r⟩
def defC (r : Nat) : Chunk := ⟨some r, True, fun o => o = .deferred (some [])⟩
theorem loopC_at {ok : Nat → Prop} {w : World} {l : Nat} {r : Loop} (h : (loopC l r).holds ok w) : w.heap[l]? = some (.loop r) := by
  obtain ⟨_, o, ho, rfl⟩ := h.2 l rfl; exact ho
theorem defC_at {ok : Nat → Prop} {w : World} {r : Nat} (h : (defC r).holds ok w) : w.heap[r]? = some (.deferred (some [])) := by
  obtain ⟨_, o, ho, rfl⟩ := h.2 r rfl; exact ho
theorem putObj_same {w : World} {l : Nat} {o o' : Obj} (h : w.heap[l]? = some o) : (w.putObj l o').heap[l]? = some o' := World.putObj_heap_same (Array.getElem?_eq_some_iff.1 h).1
theorem putObj_other {w : World} {l k : Nat} {o : Obj} (h : k ≠ l) : (w.putObj l o).heap[k]? = w.heap[k]? := by
  simp [World.putObj, Array.getElem?_setIfInBounds, Ne.symm h]
theorem putObj_size {w : World} {l : Nat} {o : Obj} : (w.putObj l o).heap.size = w.heap.size := by simp [World.putObj]
/-- A chunk's block holds another object. -/
theorem Heap.put {w0 w : World} {G : List Nat} {H : List Chunk} {k l : Nat} {c : Chunk} (c' : Chunk) {o : Obj} (h : Heap w0 G H w) (hk : H[k]? = some c) (hb : c.b = some l) (hb' : c'.b = some l) (hp : c'.pure) (ho : c'.P o) : Heap w0 G (H.set k c') (w.putObj l o) := by
  obtain ⟨_, o1, h1, _⟩ := (h.hp.get hk).2 l hb
  exact h.upd c' hk hb hb' ⟨rfl, rfl, rfl, by rw [putObj_size]; exact Nat.le_refl _⟩ (fun j hj _ => putObj_other hj) ⟨hp, o, putObj_same h1, ho⟩
/-- A chunk is given up, and its block turned. -/
theorem Heap.drop {w0 w : World} {G : List Nat} {H : List Chunk} {k l : Nat} {c : Chunk} {o : Obj} (h : Heap w0 G H w) (hk : H[k]? = some c) (hb : c.b = some l) : Heap w0 G (H.eraseIdx k) (w.putObj l o) := by
  have hge := ((h.hp.get hk).2 l hb).1
  refine ⟨⟨h.kept.os, h.kept.tape, h.kept.output, by rw [putObj_size]; exact h.kept.size, fun j hj hG => ?_⟩, h.hp.pick.kept fun g hg => ?_⟩
  · rw [putObj_other (fun e => ?_)]
    · exact h.kept.block j hj hG
    · subst e
      rcases hge with h1 | h1
      · omega
      · exact hG h1
  · exact putObj_other (fun e => by subst e; exact eraseIdx_not h.hp hk _ hb hg)
section
variable {c : Cx} {T : List Item} {L : List (Nat × Value)} {H : List Chunk}
theorem st_beginRound {l k : Nat} {r : Loop} (hrd : c.rd = some l) (hk : H[k]? = some (loopC l r)) (hr : r.state = .ready) (h : St c T L (H.set k (loopC l { r with state := .busy }))) : St c (.beginRound :: T) L H := fun a w ha hw =>
  .step (fun cs => by rw [hrd]; exact stepR_beginRound (loopC_at (hw.hp.get hk)) hr) (h a _ ha (hw.put _ hk rfl rfl trivial rfl))
theorem st_roundEnd {l k : Nat} {r : Loop} (hrd : c.rd = some l) (hk : H[k]? = some (loopC l r)) (h : ∀ w, Heap c.w0 c.G (H.set k (loopC l { r with state := .ready, pending := none })) w → c.R (.returned (.bool true)) w) : St c [] L H := fun a w ha hw => by
  unfold GoA; rw [hrd]
  exact fun x cs => ⟨.bool true, _, h _ (hw.put _ hk rfl rfl trivial rfl), .one (stepR_roundEnd rfl (loopC_at (hw.hp.get hk)))⟩
/-- A frame that returns from behind a loop: the block of the rounds' deferred calls, which has none, is shut. -/
theorem steps_tail {P : Program} {m m1 m' : Machine} (h : step P m = .next m1) (hne : m ≠ m') (hs : Steps P m m') : Steps P m1 m' := by
  obtain ⟨n, hn⟩ := hs
  cases n with
  | zero => simp only [runN] at hn; injection hn with hn'; exact absurd hn' hne
  | succ n => simp only [runN, h] at hn; exact ⟨n, hn⟩
theorem mode_ne {b fr : Frame} {a : Act} {k : List Item} {cs : List Frame} {w w' : World} (hm : fr.mode ≠ .run) : lone (b.at a k) cs w ≠ lone fr cs w' := fun e => by
  have := congrArg (fun m : Machine => (m.gs[0]?).map (fun g => g.frame.mode)) e
  exact absurd (by simpa [lone, Frame.at] using this.symm) hm
theorem not_run {P : Program} {fr : Frame} {w : World} {e : Ending} (hl : fr.leaving P w e) (hne : e ≠ .outgrown) : fr.mode ≠ .run := by
  cases e with
  | returned v => have := hl.1; rw [this]; simp
  | panicked chain => have := hl.1; rw [this]; simp
  | outgrown => exact absurd rfl hne
theorem Comes.steps {P : Program} {m m' : Machine} {e : Ending} (hne : e ≠ .outgrown) : Comes P m m' e ↔ Steps P m m' := by
  cases e with
  | returned v => exact Iff.rfl
  | panicked chain => exact Iff.rfl
  | outgrown => exact absurd rfl hne
theorem st_retD {r k : Nat} (hD : c.D = [r]) (hrd : c.rd = none) (hno : ∀ w, ¬ c.R .outgrown w) (hk : H[k]? = some (defC r)) (h : St { c with D := [] } (.code .ret :: T) L (H.eraseIdx k)) : St c (.code .ret :: T) L H := fun a w ha hw => by
  have hb := defC_at (hw.hp.get hk)
  have h1 := h { a with defers := [] } (w.putObj r (.deferred none)) ⟨ha.size, rfl, ha.at_⟩ (hw.drop hk rfl)
  unfold GoA at h1 ⊢
  simp only [hrd] at h1 ⊢
  intro cs
  obtain ⟨e, w2, fr, hR, hc, hf, hl⟩ := h1 cs
  refine ⟨e, w2, fr, hR, ?_, hf, hl⟩
  have hd : a.defers = [{ target := .collected r, args := #[] }] := by rw [ha.defers]; simp [hD, coll]
  have s1 : Steps c.P (lone (atR c.base none a (.code .ret :: T)) cs w) (lone { c.base.at { a with defers := [] } (.code .ret :: T) with mode := .returning } cs (w.putObj r (.deferred none))) :=
    .head (m₁ := lone { c.base.at a (.code .ret :: T) with mode := .returning } cs w) step_ret (.one (step_collected rfl hd hb))
  have hne : e ≠ .outgrown := fun h0 => by subst h0; exact hno _ hR
  rw [atR_none] at hc s1 ⊢
  rw [Comes.steps hne] at hc ⊢
  exact s1.trans (steps_tail step_ret (mode_ne (not_run hl hne)) hc)
end
/-! ### The order of chunks is free -/
theorem blocks_map : ∀ H : List Chunk, blocks H = H.map (·.b)
  | [] => rfl
  | c :: H => by simp [blocks, blocks_map H]
theorem Hp.perm {ok : Nat → Prop} {w : World} {H H' : List Chunk} (p : H.Perm H') (h : Hp ok w H) : Hp ok w H' := by
  induction p with
  | nil => exact h
  | cons x q ih => exact ⟨⟨h.1.1, fun g hg hm => h.1.2 g hg (by rw [blocks_map] at hm ⊢; exact (q.map (·.b)).mem_iff.2 hm)⟩, ih h.2⟩
  | swap x y l =>
    refine ⟨⟨h.2.1.1, fun g hg hm => ?_⟩, ⟨h.1.1, fun g hg hm => h.1.2 g hg (.tail _ hm)⟩, h.2.2⟩
    simp only [blocks, List.mem_cons] at hm
    rcases hm with hm | hm
    · exact h.1.2 g hm.symm (by rw [← hg]; exact .head _)
    · exact h.2.1.2 g hg hm
  | trans p q ih1 ih2 => exact ih2 (ih1 h)
theorem Heap.perm {w0 w : World} {G : List Nat} {H H' : List Chunk} (p : H.Perm H') (h : Heap w0 G H w) : Heap w0 G H' w := ⟨h.kept, h.hp.perm p⟩
theorem Hp.split {ok : Nat → Prop} {w : World} : ∀ {H H' : List Chunk}, Hp ok w (H ++ H') → Hp ok w H ∧ Hp ok w H' ∧ ∀ g, some g ∈ blocks H → some g ∉ blocks H'
  | [], H', h => ⟨trivial, h, fun g hg => by cases hg⟩
  | c :: H, H', h => by
    obtain ⟨h1, h2, h3⟩ := Hp.split (H := H) h.2
    refine ⟨⟨⟨h.1.1, fun g hg hm => h.1.2 g hg (by show some g ∈ blocks (H ++ H'); rw [blocks_append]; exact List.mem_append_left _ hm)⟩, h1⟩, h2, fun g hg hm => ?_⟩
    simp only [blocks, List.mem_cons] at hg
    rcases hg with hg | hg
    · exact h.1.2 g hg.symm (by show some g ∈ blocks (H ++ H'); rw [blocks_append]; exact List.mem_append_right _ hm)
    · exact h3 g hg hm
/-- A call, its chunks told as the first ones. -/
theorem Heap.callL {w0 w w' : World} {G : List Nat} {Hin Hr Hn : List Chunk} (h : Heap w0 G (Hin ++ Hr) w) (hu : Upd w w' (bl Hin) Hn) : Heap w0 G (Hn ++ Hr) w' := by
  obtain ⟨hin, hr, hx⟩ := h.hp.split
  refine ⟨⟨hu.kept.os.trans h.kept.os, hu.kept.tape.trans h.kept.tape, hu.kept.output.trans h.kept.output, Nat.le_trans h.kept.size hu.kept.size, fun k hk0 hg => ?_⟩, ?_⟩
  · rw [hu.kept.block k (Nat.lt_of_lt_of_le hk0 h.kept.size) (fun hm => ?_)]
    · exact h.kept.block k hk0 hg
    · rcases (hin.lt (mem_bl.1 hm)).1 with h1 | h1
      · omega
      · exact hg h1
  · refine (hu.hp.weaken fun g _ hok => ?_).append (hr.kept fun g hg => ?_) fun g hg hg2 => ?_
    · rcases hok with h1 | h1
      · exact .inl (Nat.le_trans h.kept.size h1)
      · exact (hin.lt (mem_bl.1 h1)).1
    · exact hu.kept.block g (hr.lt hg).2 fun hm => hx g (mem_bl.1 hm) hg
    · rcases (hu.hp.lt hg).1 with h1 | h1
      · have := (hr.lt hg2).2; omega
      · exact hx g (mem_bl.1 h1) hg2
theorem Heap.left {w0 w : World} {G : List Nat} {H H' : List Chunk} (h : Heap w0 G (H ++ H') w) : Heap w0 G H w := ⟨h.kept, h.hp.split.1⟩
theorem Heap.hpT {w0 w : World} {G : List Nat} {H : List Chunk} (h : Heap w0 G H w) : Hp (fun _ => True) w H := h.hp.weaken fun _ _ _ => trivial
/-- A round of the loop l: what yield answers. -/
def YC (P : Program) (l : Nat) (args : List Value) (w : World) (R : Value → World → Prop) : Prop :=
  ∃ f tm as bo, (Instr.yield l args.toArray).run P w = .ok (.round l f tm as bo) w ∧ ∀ x cs, ∃ v w', R v w' ∧ Steps P (lone (Frame.round l f tm as bo .normal) (x :: cs) w) (lone (x.finish v) cs w')
/-- What a function over which is ranged is asked: it yields these, one behind the other. -/
def Iter (P : Program) (gf : Nat) (lb : List Value) (xs : List (List Value)) (w1 : World) {σ : Type} (Hf : σ → List Chunk) (I : Nat → σ → Prop) (s0 : σ) (l : Nat) (rec : Loop) : Prop :=
  (∀ i s w', i < xs.length → I i s → Upd w1 w' (bl (loopC l rec :: Hf s0)) (loopC l rec :: Hf s) → YC P l (xs.getD i []) w' (fun v w'' => v = .bool true ∧ ∃ s', I (i + 1) s' ∧ Upd w' w'' (bl (loopC l rec :: Hf s)) (loopC l rec :: Hf s'))) →
    Ct P gf (.func (.yield l) #[] #[] :: lb) (loopC l rec :: Hf s0) w1 (fun _ : σ => .tuple #[]) (I xs.length) (fun s => loopC l rec :: Hf s)
def parL : List (Nat × Value) → List Nat → List Value → List (Nat × Value)
  | L, p :: ps, v :: vs => parL ((p, v) :: L) ps vs
  | L, _, _ => L
theorem parL_fr {F : FN} : ∀ (ps : List Nat) (vs : List Value) {L : List (Nat × Value)} {tm : Array Value}, Fr F L { tmps := tm, defers := F.D.map coll } → (ps.all fun p => Nat.blt p F.n) = true → Fr F (parL L ps vs) { tmps := (ps.zip vs).foldl (fun t (p, v) => t.setIfInBounds p v) tm, defers := F.D.map coll }
  | [], vs, L, tm, h, _ => by cases vs <;> exact h
  | p :: ps, [], L, tm, h, _ => h
  | p :: ps, v :: vs, L, tm, h, hp => by
    simp only [List.all_cons, Bool.and_eq_true] at hp
    simp only [parL, List.zip_cons_cons, List.foldl_cons]
    exact parL_fr ps vs (h.put hp.1 v) hp.2
section
variable {c : Cx} {T : List Item} {L : List (Nat × Value)} {H : List Chunk}
theorem st_rangeFunc {t : Tmp} {ps : Array Tmp} {assign body : Code} {gf : Nat} {lb : List Value} {σ : Type} (Hf : σ → List Chunk) (I : Nat → σ → Prop) (xs : List (List Value)) (s0 : σ) (ks : List Nat) (hrd : c.rd = none) (hD : c.D = [])
    (hg : lk L t = some (.func (.func gf) #[] lb.toArray)) (he : entB c.P gf = true) (h0 : I 0 s0) (hks : pickH H ks = some (Hf s0)) (hps : (ps.toList.all fun p => Nat.blt p c.N) = true) (hlen : ∀ i, i < xs.length → (xs.getD i []).length = ps.size)
    (hit : ∀ (l : Nat) (rec : Loop) (w1 : World), Heap c.w0 c.G (loopC l rec :: (Hf s0 ++ dropH H ks)) w1 → Iter c.P gf lb xs w1 Hf I s0 l rec)
    (hround : ∀ (l : Nat) (rec : Loop) (i : Nat) (s : σ) (w' : World), rec.state = .ready → rec.pending = none → i < xs.length → I i s → Heap c.w0 c.G (loopC l rec :: Hf s) w' →
      St ⟨c.P, c.f, c.N, fun e w'' => ∃ s', e = .returned (.bool true) ∧ I (i + 1) s' ∧ Upd w' w'' (bl (loopC l rec :: Hf s)) (loopC l rec :: Hf s'), w', bl (loopC l rec :: Hf s), [], some l⟩ [.code assign, .beginRound, .code body] (parL L ps.toList (xs.getD i [])) (loopC l rec :: Hf s))
    (hrest : ∀ s r, I xs.length s → St { c with D := [r] } T L (defC r :: (Hf s ++ dropH H ks))) : St c (.code (.rangeFunc (.tmp t) ps assign body) :: T) L H := fun a w ha hw => by
  have hdn := ha.none hD
  have hgv := ha.at_ t _ hg
  unfold GoA
  rw [hrd]
  intro cs
  have s1 := stepR_rangeFunc (P := c.P) (b := c.base) (a := a) (k := T) (cs := cs) (w := w) (ps := ps) (assign := assign) (body := body) hgv (fun args w => run_callFunc he args w)
  obtain ⟨r, hr⟩ : ∃ r, w.heap.size = r := ⟨_, rfl⟩
  obtain ⟨rec, hrec⟩ : ∃ rec : Loop, rec = { state := .ready, pending := none, fn := c.base.fn, tmps := a.tmps, params := ps, assign, body, defers := w.heap.size } := ⟨_, rfl⟩
  rw [← hrec] at s1
  obtain ⟨w1, hw1⟩ : ∃ w1, (w.alloc (.deferred (some []))).alloc (.loop rec) = w1 := ⟨_, rfl⟩
  rw [hw1] at s1
  have hF := hw.front ks hks
  have h1 : Heap c.w0 c.G (defC r :: (Hf s0 ++ dropH H ks)) (w.alloc (.deferred (some []))) := by
    refine hF.grow (Hn := [defC r]) ⟨Kept.of_below ((Below.refl _ _).alloc (Nat.le_refl _) _), ⟨⟨trivial, fun g e => ?_⟩, fun g e => by simp [blocks]⟩, trivial⟩
    cases e; exact ⟨.inl (by omega), _, by rw [← hr]; exact World.alloc_heap_new w _, rfl⟩
  have h2 : Heap c.w0 c.G (loopC (r + 1) rec :: (defC r :: (Hf s0 ++ dropH H ks))) w1 := by
    rw [← hw1]
    refine h1.grow (Hn := [loopC (r + 1) rec]) ⟨Kept.of_below ((Below.refl _ _).alloc (Nat.le_refl _) _), ⟨⟨trivial, fun g e => ?_⟩, fun g e => by simp [blocks]⟩, trivial⟩
    cases e
    have := World.alloc_heap_new (w.alloc (.deferred (some []))) (.loop rec)
    rw [World.size_alloc, hr] at this
    exact ⟨.inl (by rw [World.size_alloc]; omega), _, this, rfl⟩
  have h3 : Heap c.w0 c.G ((loopC (r + 1) rec :: Hf s0) ++ (defC r :: dropH H ks)) w1 := h2.perm (by
    rw [List.cons_append]
    exact List.Perm.cons _ List.perm_middle.symm)
  have hI := hit (r + 1) rec w1 (h2.perm (List.Perm.cons _ (List.Perm.refl _)) |> fun h => ⟨h.kept, ⟨⟨h.hp.1.1, fun g hg hm => h.hp.1.2 g hg (.tail _ hm)⟩, h.hp.2.2⟩⟩)
  have hct := hI (fun i s w' hi hs hu => by
    have h4 := h3.callL hu
    have hl := loopC_at (h4.hp.get (i := 0) rfl)
    have hy := run_yield (P := c.P) (args := (xs.getD i []).toArray) hl (by rw [hrec]; simpa using hlen i hi)
    refine ⟨_, _, _, _, hy, fun x cs' => ?_⟩
    have hst := hround (r + 1) rec i s w' (by rw [hrec]) (by rw [hrec]) hi hs h4.left
    have hfr : Fr ⟨c.N, []⟩ L { tmps := a.tmps, defers := [] } := ⟨ha.size, rfl, ha.at_⟩
    have hfr2 := parL_fr ps.toList (xs.getD i []) hfr hps
    have hgo := hst { tmps := (ps.toList.zip (xs.getD i [])).foldl (fun t (p, v) => t.setIfInBounds p v) a.tmps, defers := [] } w' hfr2 (Heap.startM h4.left.hpT)
    unfold GoA at hgo
    obtain ⟨v, w'', ⟨s', he, hi', hu'⟩, hsteps⟩ := hgo x cs'
    cases he
    refine ⟨_, w'', ⟨rfl, s', hi', hu'⟩, ?_⟩
    have e1 : ((rec.params.zip (xs.getD i []).toArray).foldl (fun tmps (t, a) => tmps.setIfInBounds t a) rec.tmps) = (ps.toList.zip (xs.getD i [])).foldl (fun t (p, v) => t.setIfInBounds p v) a.tmps := by
      rw [hrec, ← Array.foldl_toList]; simp
    have e2 : rec.fn = c.f := by rw [hrec]; rfl
    have e3 : rec.assign = assign := by rw [hrec]
    have e4 : rec.body = body := by rw [hrec]
    rw [round_atR, e1, e2, e3, e4]
    exact hsteps) h3.left.hpT
  obtain ⟨e, w2, fr, ⟨s, he2, hs, hu⟩, hsteps, _, hleave⟩ := hct (atR c.base none { a with defers := { target := .collected w.heap.size, args := #[] } :: a.defers } (.inRangeFunc (w.heap.size + 1) :: T) :: cs)
  subst he2
  have h5 := h3.callL hu
  have s2 := step_leave_returned (c := atR c.base none { a with defers := { target := .collected w.heap.size, args := #[] } :: a.defers } (.inRangeFunc (w.heap.size + 1) :: T)) (cs := cs) hleave
  have hl2 := loopC_at (h5.hp.get (i := 0) rfl)
  have s3 := stepR_endRangeFunc (P := c.P) (b := c.base) (a := { a with defers := { target := .collected w.heap.size, args := #[] } :: a.defers }) (k := T) (cs := cs) (w := w2) hl2 (by rw [hrec]; simp) (by rw [hrec])
  have h6 := h5.drop (k := 0) (o := .loop { rec with state := .exhausted }) rfl rfl
  have h7 : Heap c.w0 c.G (defC r :: (Hf s ++ dropH H ks)) (w2.putObj (r + 1) (.loop { rec with state := .exhausted })) := h6.perm (by
    simp only [List.cons_append, List.eraseIdx_cons_zero]
    exact List.perm_middle)
  have hfin := hrest s r hs { a with defers := { target := .collected w.heap.size, args := #[] } :: a.defers } _ ⟨ha.size, by rw [hdn, hr]; rfl, ha.at_⟩ h7
  unfold GoA at hfin
  simp only [hrd] at hfin
  obtain ⟨e, w3, fr3, hR, hc3, hf3, hl3⟩ := hfin cs
  refine ⟨e, w3, fr3, hR, ?_, hf3, hl3⟩
  refine Comes.of_steps (.head s1 ?_) hc3
  rw [hr]
  have e5 : (#[.func (.yield (r + 1)) #[] #[]] ++ lb.toArray : Array Value) = (.func (.yield (r + 1)) #[] #[] :: lb).toArray := by simp
  rw [e5]
  rw [hr] at hsteps s2 s3
  exact hsteps.trans (.head s2 (.one s3))
end
/-! ### Operation by operation; a call of yield; chunks that aren't told, behind those that are -/
def pickT (H : List Chunk) (ks : List Nat) (n : Nat) : Option (List Chunk) := (pickH (H.take n) ks).map (· ++ H.drop n)
theorem Heap.pickT {w0 w : World} {G : List Nat} {H H' : List Chunk} {ks : List Nat} {n : Nat} (h : Heap w0 G H w) (hk : Sl.pickT H ks n = some H') : Heap w0 G H' w := by
  obtain ⟨cs, hcs, rfl⟩ := Option.map_eq_some_iff.1 hk
  have h0 : Heap w0 G (H.take n ++ H.drop n) w := by rw [List.take_append_drop]; exact h
  obtain ⟨h1, h2, h3⟩ := h0.hp.split
  exact ⟨h.kept, (h1.pickH hcs).append h2 fun g hg => h3 g (pickH_blocks hcs hg)⟩
theorem Heap.tail {w0 w : World} {G : List Nat} {H : List Chunk} (n : Nat) (h : Heap w0 G H w) : Upd w0 w G (H.drop n) := by
  have h0 : Heap w0 G (H.take n ++ H.drop n) w := by rw [List.take_append_drop]; exact h
  exact ⟨h.kept, h0.hp.split.2.1⟩
section
variable {c : Cx} {T : List Item} {L : List (Nat × Value)} {H : List Chunk} {ops : Array Oper}
theorem st_toT {L' : List (Nat × Value)} {H' : List Chunk} (n : Nat) (ks : List Nat) (s : SubL L' L) (hk : pickT H ks n = some H') (h : St c T L' H') : St c T L H := fun a w ha hw => h a w (ha.sub s) (hw.pickT hk)
theorem st_goT {L' : List (Nat × Value)} {H' : List Chunk} (n : Nat) (ks : List Nat) (h : St c T L' H') (s : SubL L' L) (hk : pickT H ks n = some H') : St c T L H := st_toT n ks s hk h
theorem st_loopT {σ : Type} {x : Code} (n : Nat) (ks : List Nat) (Lf : σ → List (Nat × Value)) (Hf : σ → List Chunk) (I : σ → Prop) (μ : σ → Nat) (s0 : σ) (h0 : I s0) (hL : SubL (Lf s0) L) (hH : pickT H ks n = some (Hf s0))
    (round : ∀ s, I s → (∀ s', I s' → μ s' < μ s → St c (.inLoop x :: T) (Lf s') (Hf s')) → St c (.code x :: .inLoop x :: T) (Lf s) (Hf s)) : St c (.code (.loop x) :: T) L H :=
  st_toT n ks hL hH (by
    have key : ∀ n s, μ s = n → I s → St c (.code x :: .inLoop x :: T) (Lf s) (Hf s) := by
      intro n
      induction n using Nat.strongRecOn with
      | _ n ih => exact fun s hn hs => round s hs fun s' hs' hlt => st_inLoop (ih _ (hn ▸ hlt) s' rfl hs')
    exact st_loop0 (key _ s0 rfl h0))
theorem st_inRegion {id : Nat} (h : St c (.inRegion ops (List.range ops.size) :: T) L H) : St c (.code (.region id ops false) :: T) L H := fun a w ha hw => .step (fun cs => stepR_region) (h a w ha hw)
theorem st_step {i : Nat} {rest : List Nat} (hn : noDefer c.rd ops = true) (h : Rk c (wpOp c.P ops (QN c T) i (GoA c (.inRegion ops rest :: T))) L H) : St c (.inRegion ops (i :: rest) :: T) L H := fun a w ha hw =>
  .via fun cs => opR (b := c.base) (k := T) (cs := cs) hn (h a w ha hw)
theorem st_inEnd (h : St c T L H) : St c (.inRegion ops [] :: T) L H := fun a w ha hw => .step (fun cs => stepR_region_end) (h a w ha hw)
theorem st_yield {i d l n : Nat} {rest : List Nat} {y : Operand} {xs : Array Operand} {ats : Array TypeId} {ty : TypeId} {pos : String} {aft : Array Edge} {g : Option (Nat × Bool)} {vs : List Value} (hn : noDefer c.rd ops = true) (ho : ops[i]? = some ⟨some d, .call ⟨.value y, xs, ats⟩, ty, pos, aft, g⟩) (hw : wants ops L g = some true) (hN : Nat.blt d c.N = true)
    (hy : ev L y = some (.func (.yield l) #[] #[])) (hx : evs L xs.toList = some vs) {X : Type} {val : X → Value} {Q : X → Prop} {Hn : X → List Chunk}
    (hc : ∀ w, Heap c.w0 c.G H w → YC c.P l vs w fun v w'' => ∃ x, v = val x ∧ Q x ∧ Upd w w'' (bl (H.drop n)) (Hn x)) (h : ∀ x, Q x → St c (.inRegion ops rest :: T) ((d, val x) :: L) (H.take n ++ Hn x)) : St c (.inRegion ops (i :: rest) :: T) L H := fun a w ha hh =>
  .via fun cs => by
    obtain ⟨f, tm, as, bo, hyd, hst⟩ := hc w hh
    have hxs : xs.map a.eval = vs.toArray := by rw [← evs_inv ha hx, ← List.map_toArray]
    have hrun : (execOp a.eval ⟨some d, .call ⟨.value y, xs, ats⟩, ty, pos, aft, g⟩).run c.P w = .ok (.round l f tm as bo) w := by
      simp only [execOp, resolve, ha.ev hy, Deferred.ofValue, hxs]
      rw [Sem.run_bind, Sem.run_pure]
      simp only [Result.andThen_ok, invoke]
      have : (#[] ++ vs.toArray : Array Value) = vs.toArray := by simp
      rw [this]
      exact hyd
    obtain ⟨v, w'', ⟨x, rfl, hq, hu⟩, hsteps⟩ := hst (atR c.base c.rd a (.inRegion ops (i :: rest) :: T)) cs
    have h1 := stepR_yield (P := c.P) (b := c.base) (rd := c.rd) (a := a) (k := T) (cs := cs) (w := w) (rest := rest) ho hn (ha.wants (o := ⟨some d, .call ⟨.value y, xs, ats⟩, ty, pos, aft, g⟩) hw) hrun
    have hfin : (atR c.base c.rd a (.inRegion ops (i :: rest) :: T)).finish (val x) = atR c.base c.rd (a.put (some d) (val x)) (.inRegion ops rest :: T) := by rw [finish_atR, ho]; rfl
    rw [hfin] at hsteps
    have hp : Heap c.w0 c.G (H.drop n ++ H.take n) w := by
      refine (?_ : Heap c.w0 c.G (H.take n ++ H.drop n) w).perm List.perm_append_comm
      rw [List.take_append_drop]; exact hh
    exact ⟨_, w'', h x hq _ w'' (ha.put hN _) ((hp.callL hu).perm List.perm_append_comm), .head h1 hsteps⟩
end
theorem YC.mono {P : Program} {l : Nat} {args : List Value} {w : World} {R R' : Value → World → Prop} (h : YC P l args w R) (k : ∀ v w', R v w' → R' v w') : YC P l args w R' := by
  obtain ⟨f, tm, as, bo, h1, h2⟩ := h
  exact ⟨f, tm, as, bo, h1, fun x cs => let ⟨v, w', h3, h4⟩ := h2 x cs; ⟨v, w', k _ _ h3, h4⟩⟩
/-- Cells of a chunk that isn't handed in. -/
theorem Heap.cellsG {w0 w : World} {G : List Nat} {Hin Hr : List Chunk} {k b : Nat} {t : TypeId} {cs : List Value} (h : Heap w0 G (Hin ++ Hr) w) (hk : Hr[k]? = some (cellsC b t cs)) : Has (bl Hin) w (some ⟨b, 0, none⟩) cs := fun hne => by
  obtain ⟨_, hr, hx⟩ := h.hp.split
  obtain ⟨b', off, e, _, hc⟩ := cellsC_has (hr.get hk) hne
  exact ⟨b', off, e, fun hm => by cases e; exact hx _ (mem_bl.1 hm) (blocks_of_mem (List.mem_of_getElem? hk)), hc⟩
theorem Heap.rowG {w0 w : World} {G : List Nat} {Hin Hr : List Chunk} {k : Nat} {o : Option Nat} {n cap z : Nat} {t : TypeId} {cs : List Value} (h : Heap w0 G (Hin ++ Hr) w) (hk : Hr[k]? = some (rowC o n cap t z cs)) : Has (bl Hin) w (o.map fun g => ⟨g, 0, none⟩) cs := fun hne => by
  obtain ⟨_, hr, hx⟩ := h.hp.split
  obtain ⟨b', off, e, _, hc⟩ := rowC_has (hr.get hk) hne
  refine ⟨b', off, e, fun hm => ?_, hc⟩
  cases o with
  | none => cases e
  | some g0 =>
    have e' : g0 = b' := by simpa using (congrArg (fun o : Option Addr => o.map (·.block)) e)
    subst e'
    exact hx _ (mem_bl.1 hm) (blocks_of_mem (c := rowC (some g0) n cap t z cs) (List.mem_of_getElem? hk))
theorem Has.heapG {w0 w : World} {G : List Nat} {Hin Hr : List Chunk} {A : Option Addr} {cs : List Value} (h : Has G w0 A cs) (hh : Heap w0 G (Hin ++ Hr) w) : Has (bl Hin) w A cs := h.heap hh _ fun g hg => by
  rw [blocks_append]; exact List.mem_append_left _ (mem_bl.1 hg)
/-- Parts, with their numbers, as what is yielded. -/
def itE (ys : List (Int × Int)) : List (List Value) := ys.zipIdx.map fun p => [.int .i64 (p.2 : Int), .agg #[.int .i64 p.1.1, .int .i64 p.1.2]]
@[simp] theorem itE_length (ys : List (Int × Int)) : (itE ys).length = ys.length := by simp [itE]
theorem itE_get {ys : List (Int × Int)} {k : Nat} (h : k < ys.length) : (itE ys).getD k [] = [.int .i64 (k : Int), .agg #[.int .i64 (ys.getD k ((0, 0) : Int × Int)).1, .int .i64 (ys.getD k ((0, 0) : Int × Int)).2]] := by
  simp [itE, List.getD_eq_getElem?_getD, h]
theorem st_endC0T {L : List (Nat × Value)} {H : List Chunk} {fn : Func} {X : Type} {val : X → Value} {Q : X → Prop} {Hn : X → List Chunk} {P : Program} {f N : Nat} {w0 : World} {G : List Nat} (x : X) (hf : P.funcs[f]? = some fn) (hr : fn.results = #[]) (he : val x = .tuple #[]) (hq : Q x) (hH : H = Hn x) :
    St ⟨P, f, N, fun e w' => ∃ x, e = .returned (val x) ∧ Q x ∧ Upd w0 w' G (Hn x), w0, G, [], none⟩ [] L H :=
  st_end0 rfl rfl hf hr fun w hw => ⟨x, by rw [he], hq, hH ▸ ⟨hw.kept, hw.hp⟩⟩
theorem rec_back {r : Loop} (hs : r.state = .ready) (hp : r.pending = none) : { { r with state := .busy } with state := .ready, pending := none } = r := by
  cases r; simp_all
/-- A set, as an element: a slice. -/
structure SetV where
  A : Option Addr
  xs : List (Int × Int)
  cap : Nat
instance : Inhabited SetV := ⟨⟨none, [], 0⟩⟩
instance : Cells SetV := ⟨fun s => [.slice s.A s.xs.length s.cap], 1, by decide, fun _ => rfl, by simp [Value.oneCell']⟩
end Go.Sl

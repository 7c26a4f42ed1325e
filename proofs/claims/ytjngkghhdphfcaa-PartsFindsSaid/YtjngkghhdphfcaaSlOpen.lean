/- What came in, read as data: opened into lists and the cells that hold them. -/
import Derived.Test.YtjngkghhdphfcaaSlFin
import Derived.ProofKit
import Derived.Deep.Slices
import Derived.OpenShut
namespace Go.Sl
open Go.RowKit Go.ChangeShapes Go.WideShapes
set_option linter.unusedVariables false
set_option linter.unusedSimpArgs false
/-- A reading of type t, in cells that tell an α of which F holds. -/
def Opens (P : Program) (w : World) (t : TypeId) (α : Type) [Cells α] (F : α → Prop) : Prop :=
  ∀ (H : Type) (en : TypeId × Value → H) (fuel : Nat) (cs : List Value) (x : DataW H × List MemPlace), DataW.trod en P w 0 (fun _ => true) true fuel t cs = some x → ∃ a : α, cs = Cells.cells a ∧ F a
section
variable {α : Type} [Cells α] [Inhabited α] {P : Program} {w : World} {H : Type} {en : TypeId × Value → H} {fuel : Nat} {cs : List Value} {x : DataW H × List MemPlace}
theorem enc_at' {ys : List α} {j : Nat} (h : j < ys.length * Cells.z α) : (enc ys)[j]? = some ((Cells.cells (ys.getD (j / Cells.z α) default))[j % Cells.z α]!) := by
  have hz := Cells.pos (α := α)
  have hi : j / Cells.z α < ys.length := Nat.div_lt_of_lt_mul (by rw [Nat.mul_comm]; exact h)
  have hm : j % Cells.z α < (Cells.cells (ys.getD (j / Cells.z α) default)).length := by rw [Cells.len]; exact Nat.mod_lt _ hz
  have := enc_get (xs := ys) (i := j / Cells.z α) (j := j % Cells.z α) (d := default) (v := (Cells.cells (ys.getD (j / Cells.z α) default))[j % Cells.z α]!) hi (by rw [List.getElem?_eq_getElem hm, getElem!_pos (Cells.cells (ys.getD (j / Cells.z α) default)) (j % Cells.z α) hm])
  rw [Nat.mul_comm, Nat.div_add_mod] at this
  exact this
theorem spot_none {a : Addr} {v : Value} (h : w.cell? a = some v) : a.spot = none := by
  unfold World.cell? at h
  split at h
  · split at h
    · cases h
    · rename_i hs; simpa using hs
  · cases h
theorem add_spot {b off n : Nat} : (Addr.mk b off none).add n = ⟨b, off + n, none⟩ := by
  unfold Addr.add; split
  · rename_i h; subst h; rfl
  · rfl
theorem opens_slice {t e : TypeId} {F : α → Prop} (ht : P.underlying t = some (.slice e)) (hz : P.cellsOf e = Cells.z α) (ho : Opens P w e α F) (h : DataW.trod en P w 0 (fun _ => true) true fuel t cs = some x) :
    ∃ (A : Option Addr) (l : List α) (cap : Nat), cs = [.slice A l.length cap] ∧ Has [] w A (Sl.enc l) ∧ (∀ a ∈ l, F a) ∧ l.length ≤ cap ∧ cap ≤ 9223372036854775807 := by
  rcases Go.Deep.open_slice ht h with ⟨rfl, rfl⟩ | ⟨a, len, cap, m, n, D, Pl, rfl, hb, hl, hm, hmm, rfl, hx⟩
  · exact ⟨none, [], 0, rfl, Has.nil _ _ _, by simp, by simp, by simp⟩
  · have hmc : m = cap := by simpa using hmm
    have each : ∀ i, i < len → ∃ a' : α, w.cells? 0 (a.add (i * Cells.z α)) (Cells.z α) = some (Cells.cells a') ∧ F a' := by
      intro i hi
      obtain ⟨cs', h1, h2⟩ := hx i (by omega)
      obtain ⟨a', rfl, h3⟩ := ho _ _ _ _ _ h2
      exact ⟨a', by rw [← hz]; exact h1, h3⟩
    obtain ⟨f, hf⟩ := Go.Deep.choose_lt each
    refine ⟨some a, (List.range len).map f, cap, by simp, fun hne => ?_, fun b hb' => ?_, by simpa using hl, by simpa [maxLen] using hm⟩
    · have hlen : 0 < len := by
        rcases Nat.eq_zero_or_pos len with h0 | h0
        · subst h0; simp [Sl.enc] at hne
        · exact h0
      have hcell : ∀ i j, i < len → j < Cells.z α → w.cell? ((a.add (i * Cells.z α)).add j) = (Cells.cells (f i))[j]? := by
        intro i j hi hj
        have h1 := (hf i hi).1
        unfold World.cells? at h1
        rw [if_pos (Nat.zero_le _)] at h1
        exact mapM_some_get h1 j j (by simp [hj])
      have hz0 := Cells.pos (α := α)
      have h00 := hcell 0 0 hlen hz0
      rw [List.getElem?_eq_getElem (by rw [Cells.len]; exact hz0)] at h00
      have hs : a.spot = none := by
        have := spot_none h00
        simpa [Addr.add] using this
      obtain ⟨b, off, spot⟩ := a
      simp only at hs
      subst hs
      refine ⟨b, off, rfl, by simp, fun i v hv => ?_⟩
      have hi : i < ((List.range len).map f).length * Cells.z α := by
        rw [← enc_length]; exact (List.getElem?_eq_some_iff.1 hv).1
      rw [enc_at' hi] at hv
      simp only [List.length_map, List.length_range] at hi
      have hd : i / Cells.z α < len := Nat.div_lt_of_lt_mul (by rw [Nat.mul_comm]; exact hi)
      have hm' : i % Cells.z α < Cells.z α := Nat.mod_lt _ hz0
      have h2 := hcell (i / Cells.z α) (i % Cells.z α) hd hm'
      rw [add_spot, add_spot, Nat.add_assoc, Nat.mul_comm, Nat.div_add_mod] at h2
      rw [h2, ← hv]
      have e : ((List.range len).map f).getD (i / Cells.z α) default = f (i / Cells.z α) := by simp [List.getD_eq_getElem?_getD, hd]
      rw [e, List.getElem?_eq_getElem (by rw [Cells.len]; exact hm'), getElem!_pos _ _ (by rw [Cells.len]; exact hm')]
    · obtain ⟨i, hi, rfl⟩ := List.mem_map.1 hb'
      exact (hf i (List.mem_range.1 hi)).2
end
section
variable {P : Program} {w : World} {H : Type} {en : TypeId × Value → H} {fuel : Nat} {cs : List Value} {x : DataW H × List MemPlace}
theorem opens_field {t : TypeId} {fs : Array Field} (ht : P.underlying t = some (.struct fs)) (h : DataW.trod en P w 0 (fun _ => true) true fuel t cs = some x) (i : Nat) {f : Field} (hf : fs[i]? = some f) :
    ∃ n y, DataW.trod en P w 0 (fun _ => true) true n f.type ((cs.drop f.offset).take (P.cellsOf f.type)) = some y := by
  obtain ⟨xs, n, rfl, rfl, hl, hx, h1⟩ := DataW.trod_struct ht h
  have h2 := h1 i f hf
  have hi : i < xs.length := by rw [hx]; exact (Array.getElem?_eq_some_iff.1 hf).1
  rw [List.getElem?_eq_getElem hi] at h2
  exact ⟨n, _, h2⟩
theorem opens_at {t : TypeId} {fs : Array Field} (ht : P.underlying t = some (.struct fs)) (h : DataW.trod en P w 0 (fun _ => true) true fuel t cs = some x) (i e o z : Nat) {f : Field} (hf : fs[i]? = some f) (te : f.type = e) (fo : f.offset = o) (hz : P.cellsOf e = z) :
    ∃ n y, DataW.trod en P w 0 (fun _ => true) true n e ((cs.drop o).take z) = some y := by
  subst te fo hz
  exact opens_field ht h i hf
theorem opens_len {t : TypeId} {fs : Array Field} (ht : P.underlying t = some (.struct fs)) (h : DataW.trod en P w 0 (fun _ => true) true fuel t cs = some x) : cs.length = P.cellsOf t := by
  obtain ⟨xs, n, rfl, rfl, hl, hx, h1⟩ := DataW.trod_struct ht h
  exact hl
theorem list1 {cs : List Value} {v : Value} {i : Nat} (h : (cs.drop i).take 1 = [v]) : cs[i]? = some v := by
  have : ((cs.drop i).take 1)[0]? = some v := by rw [h]; rfl
  rw [List.getElem?_take] at this
  simpa using this
/-- Two whole numbers. -/
theorem opens_ext {t e : TypeId} {f0 f1 : Field} (ht : P.underlying t = some (.struct #[f0, f1])) (hc : P.cellsOf t = 2) (o0 : f0.offset = 0) (o1 : f1.offset = 1) (t0 : f0.type = e) (t1 : f1.type = e) (he : P.underlying e = some (.int .i64)) (ce : P.cellsOf e = 1) :
    Opens P w t (Int × Int) (fun p => (Lit.int .i64 p.1).wf = true ∧ (Lit.int .i64 p.2).wf = true) := by
  intro H en fuel cs x h
  have hl := opens_len ht h
  obtain ⟨n0, y0, h0⟩ := opens_field ht h 0 (f := f0) rfl
  obtain ⟨n1, y1, h1⟩ := opens_field ht h 1 (f := f1) rfl
  rw [t0, ce, o0] at h0
  rw [t1, ce, o1] at h1
  obtain ⟨a, ha, _, wa⟩ := DataW.trod_int he h0
  obtain ⟨b, hb, _, wb⟩ := DataW.trod_int he h1
  refine ⟨(a, b), ?_, wa, wb⟩
  have ha := list1 ha
  have hb := list1 hb
  match cs, hl with
  | [c0, c1], _ =>
    simp at ha hb
    subst ha hb; rfl
  | [], hl => rw [hc] at hl; simp at hl
  | [_], hl => rw [hc] at hl; simp at hl
  | _ :: _ :: _ :: _, hl => rw [hc] at hl; simp at hl
end
end Go.Sl

/- A part of the proof: words and contracts that the row is built on. -/
import Derived.Test.YtjngkghhdphfcaaSlRange
import Derived.Test.YtjngkghhdphfcaaSlSet
import Derived.Shelf.SlSortCmp.WholeK
/- The shelf's sort, in words of chunks. No program. -/
namespace Go.Sl
open Go.RowKit Go.Proofs Go.Shelf Go.Lib Go.Sort
set_option linter.unusedVariables false
set_option linter.unusedSimpArgs false
section
variable {α : Type} [Cells α] [Inhabited α]
theorem enc_at {ys : List α} {j : Nat} (h : j < ys.length * Cells.z α) : (enc ys)[j]? = some ((Cells.cells (ys.getD (j / Cells.z α) default))[j % Cells.z α]!) := by
  have hz := Cells.pos (α := α)
  have hi : j / Cells.z α < ys.length := Nat.div_lt_of_lt_mul (by rw [Nat.mul_comm]; exact h)
  have hm : j % Cells.z α < (Cells.cells (ys.getD (j / Cells.z α) default)).length := by rw [Cells.len]; exact Nat.mod_lt _ hz
  have := enc_get (xs := ys) (i := j / Cells.z α) (j := j % Cells.z α) (d := default) (v := (Cells.cells (ys.getD (j / Cells.z α) default))[j % Cells.z α]!) hi (by rw [List.getElem?_eq_getElem hm, getElem!_pos (Cells.cells (ys.getD (j / Cells.z α) default)) (j % Cells.z α) hm])
  rw [Nat.mul_comm, Nat.div_add_mod] at this
  exact this
theorem flatK_at {d : Array α} {j : Nat} (h : j < d.size * Cells.z α) : (flatK Cells.cells (Cells.z α) d)[j]! = (Cells.cells (d.toList.getD (j / Cells.z α) default))[j % Cells.z α]! := by
  have hi : j / Cells.z α < d.size := Nat.div_lt_of_lt_mul (by rw [Nat.mul_comm]; exact h)
  rw [get_flatK _ _ _ _ h]
  congr 2
  rw [getElem!_pos d _ hi, List.getD_eq_getElem?_getD]; simp [hi]
theorem holds_of_row {ok : Nat → Prop} {w : World} {b n cap : Nat} {t : TypeId} {xs : List α} (h : (rowC (some b) n cap t (Cells.z α) (enc xs)).holds ok w) (hn : xs.length = n) : HoldsK Cells.cells (Cells.z α) w b 0 xs.toArray ∧ b < w.heap.size := by
  refine ⟨fun j hj => ?_, h.lt rfl⟩
  obtain ⟨⟨p1, p2, p3, p4⟩, hp⟩ := h
  obtain ⟨_, ob, hob, cur, rfl, hs, ht⟩ := hp b rfl
  have hj' : j < xs.length * Cells.z α := by simpa using hj
  have hjn : j < n * Cells.z α := by rw [← hn]; exact hj'
  have h1 : cur[j]? = some ((Cells.cells (xs.getD (j / Cells.z α) default))[j % Cells.z α]!) := by
    have := enc_at hj'
    rw [← ht, List.getElem?_take, if_pos hjn] at this
    simpa using this
  refine ⟨?_, ?_⟩
  · show w.cell? ⟨b, 0 + j, none⟩ = some (id _)
    rw [flatK_at (by simpa using hj')]
    simp [World.cell?, hob, h1]
  · exact frozen_of_row w b (0 + j) cur t hob
theorem upd_of_sorted {w : World} {b n cap : Nat} {t : TypeId} {xs : List α} {d' : Array α} {m : Nat} {os : Array Obj} (hh : Hp (fun _ => True) w [rowC (some b) n cap t (Cells.z α) (enc xs)]) (hn : xs.length = n) (hd : d'.size = n) :
    Upd w (sortWorldK Cells.cells (Cells.z α) w b 0 m d' os) [b] [rowC (some b) n cap t (Cells.z α) (enc d'.toList)] := by
  obtain ⟨⟨p1, p2, p3, p4⟩, hp⟩ := hh.1.1
  obtain ⟨_, ob, hob, cur, rfl, hs, ht⟩ := hp b rfl
  have hbs : b < w.heap.size := (Array.getElem?_eq_some_iff.1 hob).1
  have hle : n * Cells.z α ≤ cap * Cells.z α := Nat.mul_le_mul_right _ p2
  have hheap : (sortWorldK Cells.cells (Cells.z α) w b 0 m d' os).heap = w.heap.modify b (onCells (putCells id 0 (flatK Cells.cells (Cells.z α) d'))) ++ os := rfl
  have hbk : (sortWorldK Cells.cells (Cells.z α) w b 0 m d' os).heap[b]? = some (.cells (putCells id 0 (flatK Cells.cells (Cells.z α) d') cur) t (0, 0)) := by
    rw [hheap, Array.getElem?_append_left (by simpa using hbs), Array.getElem?_modify, if_pos rfl, hob]; rfl
  refine ⟨⟨rfl, rfl, rfl, by rw [hheap]; simp, fun k hk hne => ?_⟩, ⟨⟨⟨by rw [enc_length]; simp [hd], p2, p3, fun e => by cases e⟩, fun g e => ?_⟩, fun g e => by simp [blocks]⟩, trivial⟩
  · rw [hheap, Array.getElem?_append_left (by simpa using hk), Array.getElem?_modify, if_neg (fun e => hne (by simp [e]))]
  · cases e
    refine ⟨.inr (by simp), _, hbk, _, rfl, by simp [putCells, hs], ?_⟩
    apply List.ext_getElem?
    intro j
    rw [List.getElem?_take]
    by_cases hj : j < n * Cells.z α
    · rw [if_pos hj, enc_at (by simpa [hd] using hj), Array.getElem?_toList]
      have hjc : j < cur.size := by omega
      have hf : (flatK Cells.cells (Cells.z α) d').size = n * Cells.z α := by rw [size_flatK, hd]
      simp only [putCells, Array.getElem?_mapIdx, Array.getElem?_eq_getElem hjc, Option.map_some]
      rw [if_pos (by rw [hf]; omega), Nat.sub_zero, flatK_at (by rw [hd]; exact hj)]
      rfl
    · rw [if_neg hj, List.getElem?_eq_none (by rw [enc_length]; simp [hd]; omega)]
end
theorem sorted_pairs {α : Type} [Inhabited α] {lt : α → α → Bool} {d : Array α} {R : α → α → Prop} (hR : ∀ x y, lt y x = false → R x y) (h : SortedIn lt 0 d.size d) : d.toList.Pairwise R := by
  rw [List.pairwise_iff_getElem]
  intro i j hi hj hij
  have h1 := h i j (Nat.zero_le _) hij (by simpa using hj)
  rw [getElem!_pos d i (by simpa using hi), getElem!_pos d j (by simpa using hj)] at h1
  simpa using hR _ _ h1
end Go.Sl

/- A part of the proof: words and contracts that the row is built on. -/
import Derived.Test.YtjngkghhdphfcaaSlSeq
namespace Go.Sl
open Go.RowKit
set_option linter.unusedVariables false
set_option linter.unusedSimpArgs false
section
variable {c : Cx} {T : List Item} {L : List (Nat × Value)} {H : List Chunk}
theorem results_cell_tmp {fn : Func} {t u k b : Nat} {ty et : TypeId} {cs : List Value} {v v' : Value} {a : Act} {w : World} (hr : fn.results = #[.cell t ty, .tmp u]) (ha : Fr c.F L a) (hw : Heap c.w0 c.G H w) (ht : lk L t = some (.pointer (some ⟨b, 0, none⟩))) (hu : lk L u = some v') (hc : H[k]? = some (cellsC b et cs)) (hv : rdV c.P ty cs 0 = some v) :
    (results fn a.tmps).run c.P w = .ok (.tuple #[v, v']) w := by
  have h1 := ha.at_ t _ ht
  rw [Array.getD_eq_getD_getElem?] at h1
  have h2 := ha.at_ u _ hu
  rw [Array.getD_eq_getD_getElem?] at h2
  have h3 := run_loadVar hv (cells_of_cellsC (hw.hp.get hc))
  simp only [Nat.add_zero] at h3
  simp [results, hr, h1, h2, asAddr, h3]
theorem results_cell {fn : Func} {t k b : Nat} {ty et : TypeId} {cs : List Value} {v : Value} {a : Act} {w : World} (hr : fn.results = #[.cell t ty]) (ha : Fr c.F L a) (hw : Heap c.w0 c.G H w) (ht : lk L t = some (.pointer (some ⟨b, 0, none⟩))) (hc : H[k]? = some (cellsC b et cs)) (hv : rdV c.P ty cs 0 = some v) :
    (results fn a.tmps).run c.P w = .ok v w := by
  have h1 := ha.at_ t _ ht
  rw [Array.getD_eq_getD_getElem?] at h1
  have h3 := run_loadVar hv (cells_of_cellsC (hw.hp.get hc))
  simp only [Nat.add_zero] at h3
  simp [results, hr, h1, asAddr, h3]
end
section
variable {T : List Item} {L : List (Nat × Value)} {H : List Chunk} {fn : Func} {X : Type} {val : X → Value} {Q : X → Prop} {Hn : X → List Chunk} {P : Program} {f N : Nat} {w0 : World} {G : List Nat}
/-- A struct in a cell, and another result. -/
theorem st_retX2 {t u b : Nat} {ty et : TypeId} {cs vs : List Value} {v' : Value} {n : Nat} (x : X) (k : Nat) (ks : List Nat) (hf : P.funcs[f]? = some fn) (hr : fn.results = #[.cell t ty, .tmp u]) (ht : lk L t = some (.pointer (some ⟨b, 0, none⟩))) (hu : lk L u = some v') (hc : H[k]? = some (cellsC b et cs))
    (ha : aggB P ty = some true) (hs : szOf P ty = some n) (hn : cs.length = n) (hcs : cs = vs) (he : val x = .tuple #[.agg vs.toArray, v']) (hq : Q x) (hk : pickH H ks = some (Hn x)) :
    St ⟨P, f, N, fun e w' => ∃ x, e = .returned (val x) ∧ Q x ∧ Upd w0 w' G (Hn x), w0, G, [], none⟩ (.code .ret :: T) L H :=
  st_retG rfl rfl hf (fun a w h1 h2 => results_cell_tmp (c := ⟨P, f, N, _, w0, G, [], none⟩) hr h1 h2 ht hu hc (rdV_agg ha hs (by omega) (by rw [List.drop_zero, ← hn, List.take_length, hcs]))) fun w hw => ⟨x, by rw [he], hq, hw.gives ks hk⟩
theorem st_retX1 {t b : Nat} {ty et : TypeId} {cs vs : List Value} {n : Nat} (x : X) (k : Nat) (ks : List Nat) (hf : P.funcs[f]? = some fn) (hr : fn.results = #[.cell t ty]) (ht : lk L t = some (.pointer (some ⟨b, 0, none⟩))) (hc : H[k]? = some (cellsC b et cs))
    (ha : aggB P ty = some true) (hs : szOf P ty = some n) (hn : cs.length = n) (hcs : cs = vs) (he : val x = .agg vs.toArray) (hq : Q x) (hk : pickH H ks = some (Hn x)) :
    St ⟨P, f, N, fun e w' => ∃ x, e = .returned (val x) ∧ Q x ∧ Upd w0 w' G (Hn x), w0, G, [], none⟩ (.code .ret :: T) L H :=
  st_retG rfl rfl hf (fun a w h1 h2 => results_cell (c := ⟨P, f, N, _, w0, G, [], none⟩) hr h1 h2 ht hc (rdV_agg ha hs (by omega) (by rw [List.drop_zero, ← hn, List.take_length, hcs]))) fun w hw => ⟨x, by rw [he], hq, hw.gives ks hk⟩
end
end Go.Sl

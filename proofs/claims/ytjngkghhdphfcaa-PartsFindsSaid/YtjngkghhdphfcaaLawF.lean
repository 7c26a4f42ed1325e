/- PROVED: for every list of paths and every name the law PartsFinds of the given program returns true, and what came in reads as before. CONDITIONS: none. -/
import Derived.Test.YtjngkghhdphfcaaG14
import Derived.Test.YtjngkghhdphfcaaSlOpen
import Derived.Test.YtjngkghhdphfcaaRows
import Derived.SizedLaws
namespace Go.Sl.Try
open Go.RowKit Go.Proofs Go.ChangeShapes Go.WideShapes
set_option linter.unusedVariables false
theorem opens_pair (w : World) : Opens Try.prog w 54 (Int × Int) (fun p => (Lit.int .i64 p.1).wf = true ∧ (Lit.int .i64 p.2).wf = true) :=
  opens_ext Try.underlying54 (by kernel_rfl) rfl rfl rfl rfl Try.underlying2 (by kernel_rfl)
theorem opens_exts {w : World} {H : Type} {en : TypeId × Value → H} {fuel : Nat} {cs : List Value} {x : DataW H × List MemPlace} (h : DataW.trod en Try.prog w 0 (fun _ => true) true fuel 34 cs = some x) :
    ∃ (A : Option Addr) (l : List (Int × Int)) (cap : Nat), cs = [.slice A l.length cap] ∧ Has [] w A (enc l) ∧ l.length ≤ cap ∧ cap ≤ 9223372036854775807 := by
  obtain ⟨A, l, cap, h1, h2, _, h3, h4⟩ := opens_slice Try.underlying34 (by kernel_rfl) (opens_pair w) h
  exact ⟨A, l, cap, h1, h2, h3, h4⟩
theorem opens_path (w : World) : Opens Try.prog w 49 PathV (fun p => Has [] w p.A (enc p.runs) ∧ p.runs.length ≤ 9223372036854775807) := by
  intro H en fuel cs x h
  have hl := opens_len Try.underlying49 h
  rw [show Try.prog.cellsOf 49 = 4 by kernel_rfl] at hl
  obtain ⟨n0, y0, h0⟩ := opens_at Try.underlying49 h 0 9 0 1 rfl rfl rfl (by kernel_rfl)
  obtain ⟨n1, y1, h1⟩ := opens_at Try.underlying49 h 1 3 1 1 rfl rfl rfl (by kernel_rfl)
  obtain ⟨n2, y2, h2⟩ := opens_at Try.underlying49 h 2 2 2 1 rfl rfl rfl (by kernel_rfl)
  obtain ⟨n3, y3, h3⟩ := opens_at Try.underlying49 h 3 34 3 1 rfl rfl rfl (by kernel_rfl)
  obtain ⟨s, e0, _⟩ := DataW.trod_string Try.underlying9 h0
  obtain ⟨a, e1, _⟩ := DataW.trod_int Try.underlying3 h1
  obtain ⟨b, e2, _⟩ := DataW.trod_int Try.underlying2 h2
  obtain ⟨A, l, cap, e3, hh, hl1, hl2⟩ := opens_exts h3
  have e0 := list1 e0
  have e1 := list1 e1
  have e2 := list1 e2
  have e3 := list1 e3
  refine ⟨⟨s, a, b, A, l, cap⟩, ?_, hh, by simp only; omega⟩
  match cs, hl with
  | [c0, c1, c2, c3], _ =>
    simp at e0 e1 e2 e3
    subst e0 e1 e2 e3; rfl
theorem own : ownKnob Try.prog.godebug = none := by kernel_rfl
theorem laidOut : laidOutB Try.prog = true := by kernel_rfl
set_option maxRecDepth 100000 in
theorem lifted (os : Os) (started : os.Started) (H : Type) (enc : TypeId × Value → H) :
    ReturnsInHanded {} Try.checked os 4 .any (Ytjngkghhdphfcaa.Rows.partsFindsSpec.pre6 enc Try.prog Try.f4 Ytjngkghhdphfcaa.Rows.partsFindsRow.domain false) (Ytjngkghhdphfcaa.Rows.partsFindsSpec.post enc Try.prog Try.f4 false true false false) := by
  refine returnsInHanded_of_change (C := Try.checked) own started (by kernel_rfl) Try.func4
    (ChangeSpec.witness6 (enc := enc) (C := Try.checked) false ⟨#[], #[.slice none 0 0, .string ByteArray.empty], []⟩ 8 (by kernel_rfl) (by kernel_rfl) (by kernel_rfl) (by kernel_rfl)) ?_
  intro W base args ds gs before hval0 hW hcnd _
  have hval : ∀ (j : Nat) t v, Try.f4.params[j]? = some t → args[j]? = some v → Value.okWide Try.prog W .any base t v := hval0
  have hW' := hW
  obtain ⟨p, q, hA0, hV, rfl, hfz, hnd⟩ := hW
  have hA : DataW.TrodAll enc Try.prog W 0 (fun _ => true) true Try.f4.params.toList args.toList ds p := hA0
  rw [Try.params4] at hA hval
  obtain ⟨v0, v1, d0, d1, p0, p1, rfl, rfl, rfl, h0, h1⟩ := trodAll_two hA
  obtain ⟨rfl, rfl⟩ := trodVars_none hV
  have k0 := h0
  have lt0 : ∀ x ∈ p0, x.block < W.heap.size := by obtain ⟨m, hm⟩ := k0; exact DataW.trod_lt m _ _ _ hm
  obtain ⟨a0, len0, cap0, rfl⟩ := okWide_slice Try.underlying47 (hval 0 47 v0 rfl rfl)
  obtain ⟨fuel, hf⟩ := h0
  obtain ⟨A, l, cap, hcs, hHas, hF, hl1, hl2⟩ := opens_slice Try.underlying47 (by kernel_rfl) (opens_path W) hf
  simp [Value.cells] at hcs
  obtain ⟨rfl, rfl, rfl⟩ := hcs
  obtain ⟨s, rfl, rfl, rfl, y1⟩ := Go.ChangeMaps.open_string Try.underlying9 (hval 1 9 v1 rfl rfl) h1
  clear hA0 hval0
  have hmem : ∀ i, i < l.length → l.getD i (⟨⟨#[]⟩, 0, 0, none, [], 0⟩ : PathV) ∈ l := fun i hi => by
    rw [List.getD_eq_getElem?_getD, List.getElem?_eq_getElem hi]; exact List.getElem_mem hi
  refine (PartsFinds_ok W a0 l cap0 s hHas (by omega) (fun i hi => (hF _ (hmem i hi)).1) (fun i hi => (hF _ (hmem i hi)).2) trivial).mono fun e W' ⟨_, he, _, hu⟩ => ?_
  subst he
  have bel : Below W.heap.size W W' := Kept.below hu.kept
  exact ⟨_, rfl, _, _, _, [], _, [], hW', trodAll_mk1 (shut_bool Try.underlying4 _), (trodAll_cons_mk (Below.trod laidOut (by kernel_rfl) (of_decide_eq_true (by kernel_rfl)) k0 bel lt0) (trodAll_cons_mk (Go.ChangeMaps.shut_string Try.underlying9 y1) trodAll_mk0)), rfl, bel.frame _, fun h => by cases h⟩
end Go.Sl.Try
namespace Go.Proofs.Ytjngkghhdphfcaa
open Go.Sl.Try
theorem partsFinds_holds : Rows.PartsFindsSaid :=
  OpenClaim.holds_of_wide 4 Try.f4 rfl rfl rfl rfl rfl rfl rfl ⟨rfl, rfl, rfl, rfl, rfl⟩ rfl rfl rfl rfl rfl (by kernel_rfl) Try.func4 (by kernel_rfl)
    (of_decide_eq_true (by kernel_rfl)) (by unfold Func.isWrapper; first | (rw [if_pos (by decide +kernel)]; kernel_rfl) | (rw [if_neg (by decide +kernel)]; exact ⟨rfl, rfl⟩))
    (fun os started H enc _ => lifted os started H enc)
end Go.Proofs.Ytjngkghhdphfcaa

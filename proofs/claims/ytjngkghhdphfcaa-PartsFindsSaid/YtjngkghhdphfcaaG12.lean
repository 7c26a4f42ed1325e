/- A part of the proof: words and contracts that the row is built on. -/
import Derived.Test.YtjngkghhdphfcaaG11
namespace Go.Sl
open Go.RowKit Go.Proofs
set_option linter.unusedVariables false
set_option linter.unusedSimpArgs false
set_option maxRecDepth 10000
namespace Try
theorem ag49 : aggB Try.prog 49 = some true := by kernel_rfl
theorem ag62 : aggB Try.prog 62 = some true := by kernel_rfl
theorem ag9 : aggB Try.prog 9 = some false := by kernel_rfl
theorem el47 : elOf Try.prog 47 = some (49, 4) := by kernel_rfl
theorem eq54 : eqB Try.prog 54 = some 2 := by kernel_rfl
theorem fd111_2 : fldOf Try.prog 111 2 = some 3 := by kernel_rfl
theorem fd49_0 : fldOf Try.prog 49 0 = some 0 := by kernel_rfl
theorem fd56_2 : fldOf Try.prog 56 2 = some 2 := by kernel_rfl
theorem fd60_2 : fldOf Try.prog 60 2 = some 2 := by kernel_rfl
theorem fd62_0 : fldOf Try.prog 62 0 = some 0 := by kernel_rfl
theorem fd62_1 : fldOf Try.prog 62 1 = some 1 := by kernel_rfl
theorem fd62_2 : fldOf Try.prog 62 2 = some 2 := by kernel_rfl
theorem fd62_4 : fldOf Try.prog 62 4 = some 4 := by kernel_rfl
theorem fd62_5 : fldOf Try.prog 62 5 = some 9 := by kernel_rfl
theorem sz49 : szOf Try.prog 49 = some 4 := by kernel_rfl
theorem sz62 : szOf Try.prog 62 = some 31 := by kernel_rfl
theorem sz9 : szOf Try.prog 9 = some 1 := by kernel_rfl
theorem ze49 : zeroOf Try.prog 49 = some (.agg #[.string ⟨#[]⟩, .int .i64 0, .int .i64 0, .slice none 0 0]) := by kernel_rfl
theorem ze62 : zeroOf Try.prog 62 = some (.agg #[.int .i64 0, .slice none 0 0, .slice none 0 0, .slice none 0 0, .slice none 0 0, .slice none 0 0, .int .i64 0, .int .i64 0, .bool false, .int .i64 0, .int .i64 0, .int .i64 0, .int .u8 0, .int .u8 0, .int .u8 0, .int .u8 0, .int .u8 0, .int .u8 0, .int .u8 0, .int .u8 0, .int .u8 0, .int .u8 0, .int .u8 0, .int .u8 0, .int .u8 0, .int .u8 0, .int .u8 0, .int .u8 0, .slice none 0 0, .int .i64 0, .int .i64 0]) := by kernel_rfl
theorem ext_of_getD {xs ys : List (Int × Int)} (hl : xs.length = ys.length) (h : ∀ j, j < xs.length → xs.getD j ((0, 0) : Int × Int) = ys.getD j ((0, 0) : Int × Int)) : xs = ys := by
  apply List.ext_getElem hl
  intro i h1 h2
  have := h i h1
  simpa [List.getD_eq_getElem?_getD, h1, h2] using this
theorem pair_eq {x y : Int × Int} (h : ([x.1, x.2] : List Int) = [y.1, y.2]) : x = y := by
  simp only [List.cons.injEq, and_true] at h
  exact Prod.ext h.1 h.2
theorem Same3_ok (w : World) (A : Option Addr) (xs : List (Int × Int)) (c : Nat) (B : Option Addr) (ys : List (Int × Int)) (d : Nat) (hA : Has [] w A (enc xs)) (hB : Has [] w B (enc ys)) (hb : xs.length ≤ 9223372036854775807) (hb2 : ys.length ≤ 9223372036854775807) :
    Ct Try.prog 17 [.slice A xs.length c, .slice B ys.length d] [] w (fun _ : Unit => .bool (decide (xs = ys))) (fun _ => True) (fun _ => []) := by
  refine Ct.of_st Try.func17 rfl rfl (L := [(0, .slice A xs.length c), (1, .slice B ys.length d)]) ⟨rfl, rfl, trivial⟩ ?_
  refine st_seq ?_
  refine st_region rfl ?_
  refine sr_assign rfl rfl rfl rfl ?_
  refine sr_end ?_
  refine st_seq ?_
  refine st_seq ?_
  refine st_region rfl ?_
  refine sr_move rfl rfl rfl rfl ?_
  refine sr_len rfl rfl rfl rfl el34 ?_
  refine sr_move rfl rfl rfl rfl ?_
  refine sr_len rfl rfl rfl rfl el34 ?_
  refine sr_bin rfl rfl rfl rfl rfl b_neq ?_
  refine sr_end ?_
  refine st_if rfl (fun q1 => ?_) (fun q1 => ?_)
  · have hl : ¬ xs.length = ys.length := (by simp at q1; omega)
    refine st_seq ?_
    refine st_region rfl ?_
    refine sr_assign rfl rfl rfl rfl ?_
    refine sr_end ?_
    exact st_retC () [] Try.func17 rfl rfl (by first | rw [decide_eq_false (fun h => hd (by rw [h]))] | rw [decide_eq_false (fun h => hl (by rw [h]))]) trivial rfl
  · have hl : xs.length = ys.length := (by simp at q1; omega)
    refine st_skip ?_
    refine st_seq ?_
    refine st_seq ?_
    refine st_region rfl ?_
    refine sr_assign rfl rfl rfl rfl ?_
    refine sr_end ?_
    refine st_block ?_
    refine st_loop1 [] (fun (k : Nat) => [(0, .slice A xs.length c), (1, .slice B ys.length d), (5, .int .i64 (k : Int))]) (fun (k : Nat) => []) (fun (k : Nat) => k ≤ xs.length ∧ ∀ j, j < k → xs.getD j ((0, 0) : Int × Int) = ys.getD j ((0, 0) : Int × Int)) (fun (k : Nat) => xs.length - k) 0 ⟨Nat.zero_le _, fun j hj => absurd hj (Nat.not_lt_zero _)⟩ ⟨rfl, rfl, rfl, trivial⟩ rfl (fun k hI hk1 => ?_)
    have hk := hI.1
    refine st_seq ?_
    refine st_seq ?_
    refine st_region rfl ?_
    refine sr_move rfl rfl rfl rfl ?_
    refine sr_move rfl rfl rfl rfl ?_
    refine sr_len rfl rfl rfl rfl el34 ?_
    refine sr_bin rfl rfl rfl rfl rfl b_lss ?_
    refine sr_end ?_
    refine st_ifD rfl (fun q1 => ?_) (fun q1 => ?_)
    · skip
      refine st_skip ?_
      refine st_seq ?_
      refine st_block ?_
      refine st_seq ?_
      refine st_draw [] [] follows_mixed rfl ?_
      refine sd_take [] 0 rfl rfl rfl (fun _ => pv_move rfl) (by kernel_rfl) (by kernel_rfl) (by kernel_rfl) (by kernel_rfl) rfl ?_
      refine sd_take [] 1 rfl rfl rfl (fun _ => pv_move rfl) (by kernel_rfl) (by kernel_rfl) (by kernel_rfl) (by kernel_rfl) rfl ?_
      obtain ⟨B1, O1, eA1, hg1, hb1⟩ := hA (enc_ne (by omega))
      refine sd_take [] 2 rfl rfl rfl (fun _ => pv_indexRo rfl rfl el34 eA1 (by (try simp only [List.length_append, List.length_cons, List.length_nil, List.length_set, List.length_replicate, List.length_take, List.length_drop, List.length_map, List.length_range, bytesN_length, List.length_singleton] at *); omega) (by (try simp only [List.length_append, List.length_cons, List.length_nil, List.length_set, List.length_replicate, List.length_take, List.length_drop, List.length_map, List.length_range, bytesN_length, List.length_singleton] at *); omega)) (by kernel_rfl) (by kernel_rfl) (by kernel_rfl) (by kernel_rfl) rfl ?_
      refine sd_take [] 3 rfl rfl rfl (fun _ => pv_loadAt (p := O1) (off := k * 2 + 0) rfl rfl (has_cells hg1 hb1) (rdN (i := k) (j := 0) ag54 sz54 ((0, 0) : Int × Int) [.int .i64 ((xs.getD k ((0, 0) : Int × Int)).1), .int .i64 ((xs.getD k ((0, 0) : Int × Int)).2)] (by omega) rfl rfl)) (by kernel_rfl) (by kernel_rfl) (by kernel_rfl) (by kernel_rfl) rfl ?_
      refine sd_take [] 4 rfl rfl rfl (fun _ => pv_move rfl) (by kernel_rfl) (by kernel_rfl) (by kernel_rfl) (by kernel_rfl) rfl ?_
      refine sd_take [] 5 rfl rfl rfl (fun _ => pv_move rfl) (by kernel_rfl) (by kernel_rfl) (by kernel_rfl) (by kernel_rfl) rfl ?_
      obtain ⟨B2, O2, eA2, hg2, hb2⟩ := hB (enc_ne (by omega))
      refine sd_take [] 6 rfl rfl rfl (fun _ => pv_indexRo rfl rfl el34 eA2 (by (try simp only [List.length_append, List.length_cons, List.length_nil, List.length_set, List.length_replicate, List.length_take, List.length_drop, List.length_map, List.length_range, bytesN_length, List.length_singleton] at *); omega) (by (try simp only [List.length_append, List.length_cons, List.length_nil, List.length_set, List.length_replicate, List.length_take, List.length_drop, List.length_map, List.length_range, bytesN_length, List.length_singleton] at *); omega)) (by kernel_rfl) (by kernel_rfl) (by kernel_rfl) (by kernel_rfl) rfl ?_
      refine sd_take [] 7 rfl rfl rfl (fun _ => pv_loadAt (p := O2) (off := k * 2 + 0) rfl rfl (has_cells hg2 hb2) (rdN (i := k) (j := 0) ag54 sz54 ((0, 0) : Int × Int) [.int .i64 ((ys.getD k ((0, 0) : Int × Int)).1), .int .i64 ((ys.getD k ((0, 0) : Int × Int)).2)] (by omega) rfl rfl)) (by kernel_rfl) (by kernel_rfl) (by kernel_rfl) (by kernel_rfl) rfl ?_
      refine sd_take [] 8 rfl rfl rfl (fun _ => pv_bin rfl rfl (b_neqS (xs := ([(xs.getD k ((0, 0) : Int × Int)).1, (xs.getD k ((0, 0) : Int × Int)).2] : List Int)) (ys := ([(ys.getD k ((0, 0) : Int × Int)).1, (ys.getD k ((0, 0) : Int × Int)).2] : List Int)) eq54 rfl rfl)) (by kernel_rfl) (by kernel_rfl) (by kernel_rfl) (by kernel_rfl) rfl ?_
      refine sd_end (by kernel_rfl) ?_
      refine st_if rfl (fun q7 => ?_) (fun q7 => ?_)
      · have hd : ¬ (([(xs.getD k ((0, 0) : Int × Int)).1, (xs.getD k ((0, 0) : Int × Int)).2] : List Int) = [(ys.getD k ((0, 0) : Int × Int)).1, (ys.getD k ((0, 0) : Int × Int)).2]) := (by rw [Bool.not_eq_true', decide_eq_false_iff_not] at q7; exact q7)
        refine st_seq ?_
        refine st_region rfl ?_
        refine sr_assign rfl rfl rfl rfl ?_
        refine sr_end ?_
        exact st_retC () [] Try.func17 rfl rfl (by first | rw [decide_eq_false (fun h => hd (by rw [h]))] | rw [decide_eq_false (fun h => hl (by rw [h]))]) trivial rfl
      · have hd : ([(xs.getD k ((0, 0) : Int × Int)).1, (xs.getD k ((0, 0) : Int × Int)).2] : List Int) = [(ys.getD k ((0, 0) : Int × Int)).1, (ys.getD k ((0, 0) : Int × Int)).2] := (by rw [Bool.not_eq_false', decide_eq_true_iff] at q7; exact q7)
        refine st_skip ?_
        refine st_inBlock ?_
        refine st_region rfl ?_
        refine sr_move rfl rfl rfl rfl ?_
        refine sr_bin rfl rfl rfl rfl rfl (b_addI (by (try simp only [List.length_append, List.length_cons, List.length_nil, List.length_set, List.length_replicate, List.length_take, List.length_drop, List.length_map, List.length_range, bytesN_length, List.length_singleton] at *); omega) (by (try simp only [List.length_append, List.length_cons, List.length_nil, List.length_set, List.length_replicate, List.length_take, List.length_drop, List.length_map, List.length_range, bytesN_length, List.length_singleton] at *); omega)) ?_
        refine sr_assign rfl rfl rfl rfl ?_
        refine sr_end ?_
        exact st_go [] (hk1 (k + 1) ⟨by omega, fun j hj => (Nat.lt_succ_iff_lt_or_eq.1 hj).elim (hI.2 j) (fun h => h ▸ pair_eq hd)⟩ (by omega)) ⟨rfl, rfl, congrArg (fun z : Int => some (Value.int .i64 z)) (by omega), trivial⟩ rfl
    · skip
      refine st_exit rfl ?_
      refine st_seq ?_
      refine st_region rfl ?_
      refine sr_assign rfl rfl rfl rfl ?_
      refine sr_end ?_
      exact st_retC () [] Try.func17 rfl rfl (by rw [decide_eq_true (ext_of_getD hl (fun j hj => hI.2 j (by omega)))]) trivial rfl

structure PathV where
  name : ByteArray
  kind : Int
  size : Int
  A : Option Addr
  runs : List (Int × Int)
  cap : Nat
instance : Inhabited PathV := ⟨⟨⟨#[]⟩, 0, 0, none, [], 0⟩⟩
instance : Cells PathV := ⟨fun p => [.string p.name, .int .i64 p.kind, .int .i64 p.size, .slice p.A p.runs.length p.cap], 4, by decide, fun _ => rfl, by simp [Value.oneCell']⟩
def findF (l : List PathV) (name : ByteArray) : PathV × Bool := match l with
  | [] => (⟨⟨#[]⟩, 0, 0, none, [], 0⟩, false)
  | p :: l => if p.name = name then (p, true) else findF l name
theorem findF_at {l : List PathV} {name : ByteArray} {k : Nat} (h : k < l.length) : findF (l.drop k) name = if (l.getD k (⟨⟨#[]⟩, 0, 0, none, [], 0⟩ : PathV)).name = name then (l.getD k (⟨⟨#[]⟩, 0, 0, none, [], 0⟩ : PathV), true) else findF (l.drop (k + 1)) name := by
  rw [List.drop_eq_getElem_cons h]
  have e : l.getD k (⟨⟨#[]⟩, 0, 0, none, [], 0⟩ : PathV) = l[k] := by simp [List.getD_eq_getElem?_getD, h]
  rw [e]; rfl
theorem Find_ok (w : World) (A : Option Addr) (l : List PathV) (c : Nat) (name : ByteArray) (hA : Has [] w A (enc l)) (hb : l.length ≤ 1000000000000) (hS : ∀ i, i < l.length → Has [] w (l.getD i (⟨⟨#[]⟩, 0, 0, none, [], 0⟩ : PathV)).A (enc (l.getD i (⟨⟨#[]⟩, 0, 0, none, [], 0⟩ : PathV)).runs)) (res : PathV × Bool) (hres : res = findF l name) :
    Ct Try.prog 13 [.slice A l.length c, .string name] [] w (fun _ : Unit => .tuple #[.agg #[.string res.1.name, .int .i64 res.1.kind, .int .i64 res.1.size, .slice res.1.A res.1.runs.length res.1.cap], .bool res.2]) (fun _ => True) (fun _ => []) := by
  refine Ct.of_st Try.func13 rfl rfl (L := [(0, .slice A l.length c), (1, .string name)]) ⟨rfl, rfl, trivial⟩ ?_
  refine st_seq ?_
  refine st_region rfl ?_
  refine sr_alloc rfl rfl rfl ze49 (fun b1 => ?_)
  refine sr_assign rfl rfl rfl rfl ?_
  refine sr_end ?_
  refine st_seq ?_
  refine st_seq ?_
  refine st_region rfl ?_
  refine sr_move rfl rfl rfl rfl ?_
  refine sr_len rfl rfl rfl rfl el47 ?_
  refine sr_move rfl rfl rfl rfl ?_
  refine sr_end ?_
  refine st_block ?_
  refine st_loop1 [0] (fun (k : Nat) => [(1, .string name), (4, .pointer (some ⟨b1, 0, none⟩)), (8, .slice A l.length c), (9, .int .i64 (l.length : Int)), (10, .int .i64 (k : Int))]) (fun (k : Nat) => [cellsC b1 49 [.string ⟨#[]⟩, .int .i64 0, .int .i64 0, .slice none 0 0]]) (fun (k : Nat) => k ≤ l.length ∧ findF (l.drop k) name = findF l name) (fun (k : Nat) => l.length - k) 0 ⟨Nat.zero_le _, rfl⟩ ⟨rfl, rfl, rfl, rfl, rfl, trivial⟩ rfl (fun k hI hk1 => ?_)
  have hk := hI.1
  refine st_seq ?_
  refine st_region rfl ?_
  refine sr_bin rfl rfl rfl rfl rfl b_lss ?_
  refine sr_end ?_
  refine st_seq ?_
  refine st_ifD rfl (fun q1 => ?_) (fun q1 => ?_)
  · skip
    refine st_skip ?_
    refine st_seq ?_
    refine st_block ?_
    refine st_seq ?_
    refine st_region rfl ?_
    obtain ⟨B1, O1, eA1, hg_B1, hb_B1⟩ := hA (enc_ne (by omega))
    refine sr_indexRoE rfl rfl rfl rfl rfl el47 eA1 (by (try simp only [List.length_append, List.length_cons, List.length_nil, List.length_set, List.length_replicate, List.length_take, List.length_drop, List.length_map, List.length_range, bytesN_length, List.length_singleton] at *); omega) (by (try simp only [List.length_append, List.length_cons, List.length_nil, List.length_set, List.length_replicate, List.length_take, List.length_drop, List.length_map, List.length_range, bytesN_length, List.length_singleton] at *); omega) ?_
    refine sr_loadAt (p := O1) (off := k * 4 + 0) rfl rfl rfl rfl rfl (has_cells hg_B1 hb_B1) (rdN (i := k) (j := 0) ag49 sz49 (⟨⟨#[]⟩, 0, 0, none, [], 0⟩ : PathV) [.string ((l.getD k (⟨⟨#[]⟩, 0, 0, none, [], 0⟩ : PathV)).name), .int .i64 ((l.getD k (⟨⟨#[]⟩, 0, 0, none, [], 0⟩ : PathV)).kind), .int .i64 ((l.getD k (⟨⟨#[]⟩, 0, 0, none, [], 0⟩ : PathV)).size), .slice ((l.getD k (⟨⟨#[]⟩, 0, 0, none, [], 0⟩ : PathV)).A) ((l.getD k (⟨⟨#[]⟩, 0, 0, none, [], 0⟩ : PathV)).runs.length) ((l.getD k (⟨⟨#[]⟩, 0, 0, none, [], 0⟩ : PathV)).cap)] (by omega) rfl rfl) ?_
    refine sr_alloc rfl rfl rfl ze49 (fun b2 => ?_)
    refine sr_store (k := 0) rfl rfl rfl rfl rfl sz49 rfl rfl rfl rfl ?_
    refine sr_end ?_
    refine st_seq ?_
    refine st_region rfl ?_
    refine sr_fieldAddr (m := 0) rfl rfl rfl rfl fd49_0 rfl ?_
    refine sr_load1 (k := 0) rfl rfl rfl rfl rfl ag9 rfl ?_
    refine sr_move rfl rfl rfl rfl ?_
    refine sr_bin rfl rfl rfl rfl rfl b_eqlStr ?_
    refine sr_end ?_
    refine st_ifD rfl (fun q17 => ?_) (fun q17 => ?_)
    · skip
      refine st_seq ?_
      refine st_region rfl ?_
      refine sr_loadN (k := 0) (vs := [.string ((l.getD k (⟨⟨#[]⟩, 0, 0, none, [], 0⟩ : PathV)).name), .int .i64 ((l.getD k (⟨⟨#[]⟩, 0, 0, none, [], 0⟩ : PathV)).kind), .int .i64 ((l.getD k (⟨⟨#[]⟩, 0, 0, none, [], 0⟩ : PathV)).size), .slice ((l.getD k (⟨⟨#[]⟩, 0, 0, none, [], 0⟩ : PathV)).A) ((l.getD k (⟨⟨#[]⟩, 0, 0, none, [], 0⟩ : PathV)).runs.length) ((l.getD k (⟨⟨#[]⟩, 0, 0, none, [], 0⟩ : PathV)).cap)]) rfl rfl rfl rfl rfl ag49 sz49 rfl rfl ?_
      refine sr_store (k := 1) rfl rfl rfl rfl rfl sz49 rfl rfl rfl rfl ?_
      refine sr_assign rfl rfl rfl rfl ?_
      refine sr_end ?_
      obtain rfl : res = (l.getD k (⟨⟨#[]⟩, 0, 0, none, [], 0⟩ : PathV), true) := hres.trans (by rw [← hI.2, findF_at (l := l) (k := k) (by omega), if_pos q17])
      exact st_retX2 () 1 [] Try.func13 rfl rfl rfl rfl ag49 sz49 rfl rfl rfl trivial rfl
    · skip
      refine st_skip ?_
      refine st_inBlock ?_
      refine st_region rfl ?_
      refine sr_bin rfl rfl rfl rfl rfl (b_addI (by (try simp only [List.length_append, List.length_cons, List.length_nil, List.length_set, List.length_replicate, List.length_take, List.length_drop, List.length_map, List.length_range, bytesN_length, List.length_singleton] at *); omega) (by (try simp only [List.length_append, List.length_cons, List.length_nil, List.length_set, List.length_replicate, List.length_take, List.length_drop, List.length_map, List.length_range, bytesN_length, List.length_singleton] at *); omega)) ?_
      refine sr_move rfl rfl rfl rfl ?_
      refine sr_end ?_
      exact st_go [1] (hk1 (k + 1) ⟨by omega, by rw [← hI.2, findF_at (l := l) (k := k) (by omega), if_neg q17]⟩ (by omega)) ⟨rfl, rfl, rfl, rfl, congrArg (fun z : Int => some (Value.int .i64 z)) (by omega), trivial⟩ rfl
  · skip
    refine st_exit rfl ?_
    refine st_seq ?_
    refine st_region rfl ?_
    refine sr_build (cs := [.string ⟨#[]⟩, .int .i64 0, .int .i64 0, .slice none 0 0]) rfl rfl rfl rfl (fun _ => by kernel_rfl) ?_
    refine sr_store (k := 0) rfl rfl rfl rfl rfl sz49 rfl rfl rfl rfl ?_
    refine sr_assign rfl rfl rfl rfl ?_
    refine sr_end ?_
    obtain rfl : res = ((⟨⟨#[]⟩, 0, 0, none, [], 0⟩ : PathV), false) := hres.trans (by rw [← hI.2, show k = l.length by omega, List.drop_length]; rfl)
    exact st_retX2 () 0 [] Try.func13 rfl rfl rfl rfl ag49 sz49 rfl rfl rfl trivial rfl

theorem Window_nil (w : World) (a b : Int) :
    Ct Try.prog 15 [.nilIface, .agg #[.int .i64 a, .int .i64 b]] [] w (fun _ : Unit => .tuple #[.nilIface, .int .i64 2]) (fun _ => True) (fun _ => []) := by
  refine Ct.of_st Try.func15 rfl rfl (L := [(0, .nilIface), (1, .agg #[.int .i64 a, .int .i64 b])]) ⟨rfl, rfl, trivial⟩ ?_
  refine st_seq ?_
  refine st_region rfl ?_
  refine sr_box rfl rfl rfl rfl (fun b1 => ?_)
  refine sr_assign rfl rfl rfl rfl ?_
  refine sr_assign rfl rfl rfl rfl ?_
  refine sr_end ?_
  refine st_seq ?_
  refine st_block ?_
  refine st_seq ?_
  refine st_region rfl ?_
  refine sr_move rfl rfl rfl rfl ?_
  refine sr_bin rfl rfl rfl rfl rfl (b_nilNil if43) ?_
  refine sr_assign rfl rfl rfl rfl ?_
  refine sr_end ?_
  refine st_true rfl ?_
  refine st_seq ?_
  refine st_region rfl ?_
  refine sr_assign rfl rfl rfl rfl ?_
  refine sr_assign rfl rfl rfl rfl ?_
  refine sr_end ?_
  exact st_retC2 (()) [] Try.func15 rfl rfl rfl rfl trivial rfl

theorem Content_nil (w : World) (p : PathV) :
    Ct Try.prog 16 [.nilIface, .agg #[.string p.name, .int .i64 p.kind, .int .i64 p.size, .slice p.A p.runs.length p.cap]] [] w (fun _ : Unit => .tuple #[.slice none 0 0, .int .i64 2]) (fun _ => True) (fun _ => []) := by
  refine Ct.of_st Try.func16 rfl rfl (L := [(0, .nilIface), (1, .agg #[.string p.name, .int .i64 p.kind, .int .i64 p.size, .slice p.A p.runs.length p.cap])]) ⟨rfl, rfl, trivial⟩ ?_
  refine st_seq ?_
  refine st_region rfl ?_
  refine sr_box rfl rfl rfl rfl (fun b1 => ?_)
  refine sr_assign rfl rfl rfl rfl ?_
  refine sr_assign rfl rfl rfl rfl ?_
  refine sr_end ?_
  refine st_seq ?_
  refine st_seq ?_
  refine st_region rfl ?_
  refine sr_move rfl rfl rfl rfl ?_
  refine sr_bin rfl rfl rfl rfl rfl (b_nilNil if43) ?_
  refine sr_end ?_
  refine st_true rfl ?_
  refine st_seq ?_
  refine st_region rfl ?_
  refine sr_assign rfl rfl rfl rfl ?_
  refine sr_assign rfl rfl rfl rfl ?_
  refine sr_end ?_
  exact st_retC2 (()) [] Try.func16 rfl rfl rfl rfl trivial rfl

theorem partsParse_nil (w : World)  :
    Ct Try.prog 14 [.nilIface] [] w (fun _ : Unit => .tuple #[.agg #[.int .i64 0, .slice none 0 0, .slice none 0 0, .slice none 0 0, .slice none 0 0, .slice none 0 0, .int .i64 0, .int .i64 0, .bool false, .int .i64 0, .int .i64 0, .int .i64 0, .int .u8 0, .int .u8 0, .int .u8 0, .int .u8 0, .int .u8 0, .int .u8 0, .int .u8 0, .int .u8 0, .int .u8 0, .int .u8 0, .int .u8 0, .int .u8 0, .int .u8 0, .int .u8 0, .int .u8 0, .int .u8 0, .slice none 0 0, .int .i64 0, .int .i64 0], .int .i64 2]) (fun _ => True) (fun _ => []) := by
  refine Ct.of_st Try.func14 rfl rfl (L := [(0, .nilIface)]) ⟨rfl, trivial⟩ ?_
  refine st_seq ?_
  refine st_region rfl ?_
  refine sr_alloc rfl rfl rfl ze62 (fun b1 => ?_)
  refine sr_assign rfl rfl rfl rfl ?_
  refine sr_end ?_
  refine st_seq ?_
  refine st_seq ?_
  refine st_region rfl ?_
  refine sr_move rfl rfl rfl rfl ?_
  refine sr_bin rfl rfl rfl rfl rfl (b_nilNil if43) ?_
  refine sr_end ?_
  refine st_true rfl ?_
  refine st_seq ?_
  refine st_region rfl ?_
  refine sr_build (cs := [.int .i64 0, .slice none 0 0, .slice none 0 0, .slice none 0 0, .slice none 0 0, .slice none 0 0, .int .i64 0, .int .i64 0, .bool false, .int .i64 0, .int .i64 0, .int .i64 0, .int .u8 0, .int .u8 0, .int .u8 0, .int .u8 0, .int .u8 0, .int .u8 0, .int .u8 0, .int .u8 0, .int .u8 0, .int .u8 0, .int .u8 0, .int .u8 0, .int .u8 0, .int .u8 0, .int .u8 0, .int .u8 0, .slice none 0 0, .int .i64 0, .int .i64 0]) rfl rfl rfl rfl (fun _ => by kernel_rfl) ?_
  refine sr_store (k := 0) rfl rfl rfl rfl rfl sz62 rfl rfl rfl rfl ?_
  refine sr_assign rfl rfl rfl rfl ?_
  refine sr_end ?_
  exact st_retX2 () 0 [] Try.func14 rfl rfl rfl rfl ag62 sz62 rfl rfl rfl trivial rfl

def minFrom (to : Int) (e : Int) (x : Int) : Int := if to ≤ x then min e x else e
def room0 (kind glast : Int) (inner : Int × Int) (p : PartV) (size : Int) : Int := if kind = 2 then (glast + 1) * 512 else if 4 ≤ p.slot then inner.2 else size
def room1 (to : Int) (e : Int) (l : List Int) : Int := l.foldl (minFrom to) e
def roomF (kind glast : Int) (inner : Int × Int) (ps : List PartV) (held : List (Int × Int)) (p : PartV) (size : Int) : Int :=
  if kind = 1 ∧ p.slot < 4 ∧ inner.1 < inner.2 ∧ p.ext.2 ≤ inner.1 then min (room1 p.ext.2 (room1 p.ext.2 (room0 kind glast inner p size) (ps.map fun q => q.ext.1)) (held.map Prod.fst)) inner.1
  else room1 p.ext.2 (room1 p.ext.2 (room0 kind glast inner p size) (ps.map fun q => q.ext.1)) (held.map Prod.fst)
theorem room1_part {to e : Int} {ps : List PartV} {k : Nat} (h : k < ps.length) : room1 to e ((ps.take (k + 1)).map fun q => q.ext.1) = minFrom to (room1 to e ((ps.take k).map fun q => q.ext.1)) (ps.getD k (⟨(0, 0), 0, 0⟩ : PartV)).ext.1 := by
  rw [List.take_add_one, List.map_append, room1, room1, List.foldl_append]
  simp [List.getD_eq_getElem?_getD, h]
theorem room1_held {to e : Int} {hs : List (Int × Int)} {k : Nat} (h : k < hs.length) : room1 to e ((hs.take (k + 1)).map Prod.fst) = minFrom to (room1 to e ((hs.take k).map Prod.fst)) (hs.getD k ((0, 0) : Int × Int)).1 := by
  rw [List.take_add_one, List.map_append, room1, room1, List.foldl_append]
  simp [List.getD_eq_getElem?_getD, h]
theorem Room_ok (w : World) (kind : Int) (A : Option Addr) (ps : List PartV) (cA : Nat) (B : Option Addr) (held : List (Int × Int)) (cB : Nat) (vG vP vH : Value) (inner : Int × Int) (gd : Bool) (g1 g2 glast : Int) (vL : Value) (g3 g4 : Int) (p : PartV) (size : Int) (hA : Has [] w A (enc ps)) (hB : Has [] w B (enc held)) (hb : ps.length ≤ 1000000000000) (hb2 : held.length ≤ 1000000000000) (hg : -1000000000000 ≤ glast) (hg2 : glast ≤ 1000000000000) :
    Ct Try.prog 47 [.agg #[.int .i64 kind, .slice A ps.length cA, .slice B held.length cB, vG, vP, vH, .int .i64 inner.1, .int .i64 inner.2, .bool gd, .int .i64 g1, .int .i64 g2, .int .i64 glast, .int .u8 0, .int .u8 0, .int .u8 0, .int .u8 0, .int .u8 0, .int .u8 0, .int .u8 0, .int .u8 0, .int .u8 0, .int .u8 0, .int .u8 0, .int .u8 0, .int .u8 0, .int .u8 0, .int .u8 0, .int .u8 0, vL, .int .i64 g3, .int .i64 g4], .agg #[.int .i64 p.ext.1, .int .i64 p.ext.2, .int .i64 p.type, .int .i64 p.slot], .int .i64 size] [] w (fun _ : Unit => .int .i64 (roomF kind glast inner ps held p size)) (fun _ => True) (fun _ => []) := by
  refine Ct.of_st Try.func47 rfl rfl (L := [(0, .agg #[.int .i64 kind, .slice A ps.length cA, .slice B held.length cB, vG, vP, vH, .int .i64 inner.1, .int .i64 inner.2, .bool gd, .int .i64 g1, .int .i64 g2, .int .i64 glast, .int .u8 0, .int .u8 0, .int .u8 0, .int .u8 0, .int .u8 0, .int .u8 0, .int .u8 0, .int .u8 0, .int .u8 0, .int .u8 0, .int .u8 0, .int .u8 0, .int .u8 0, .int .u8 0, .int .u8 0, .int .u8 0, vL, .int .i64 g3, .int .i64 g4]), (1, .agg #[.int .i64 p.ext.1, .int .i64 p.ext.2, .int .i64 p.type, .int .i64 p.slot]), (2, .int .i64 size)]) ⟨rfl, rfl, rfl, trivial⟩ ?_
  refine st_seq ?_
  refine st_region rfl ?_
  refine sr_box rfl rfl rfl rfl (fun b1 => ?_)
  refine sr_box rfl rfl rfl rfl (fun b2 => ?_)
  refine sr_assign rfl rfl rfl rfl ?_
  refine sr_end ?_
  refine st_seq ?_
  refine st_region rfl ?_
  refine sr_move rfl rfl rfl rfl ?_
  refine sr_assign rfl rfl rfl rfl ?_
  refine sr_end ?_
  refine st_seq ?_
  refine st_seq ?_
  refine st_region rfl ?_
  refine sr_fieldAddr (m := 0) rfl rfl rfl rfl fd62_0 rfl ?_
  refine sr_load1 (k := 1) rfl rfl rfl rfl rfl ag3 rfl ?_
  refine sr_bin rfl rfl rfl rfl rfl b_eql ?_
  refine sr_end ?_
  refine st_join0 [(3, .pointer (some ⟨b1, 0, none⟩)), (4, .pointer (some ⟨b2, 0, none⟩)), (7, .int .i64 (room0 kind glast inner p size))] [cellsC b2 111 [.int .i64 p.ext.1, .int .i64 p.ext.2, .int .i64 p.type, .int .i64 p.slot], cellsC b1 62 [.int .i64 kind, .slice A ps.length cA, .slice B held.length cB, vG, vP, vH, .int .i64 inner.1, .int .i64 inner.2, .bool gd, .int .i64 g1, .int .i64 g2, .int .i64 glast, .int .u8 0, .int .u8 0, .int .u8 0, .int .u8 0, .int .u8 0, .int .u8 0, .int .u8 0, .int .u8 0, .int .u8 0, .int .u8 0, .int .u8 0, .int .u8 0, .int .u8 0, .int .u8 0, .int .u8 0, .int .u8 0, vL, .int .i64 g3, .int .i64 g4]] ?_ (fun hj1 => ?_)
  · skip
    refine st_seq ?_
    refine st_seq ?_
    refine st_region rfl ?_
    refine sr_fieldAddr (m := 1) rfl rfl rfl rfl fd62_1 rfl ?_
    refine sr_load1 (k := 1) rfl rfl rfl rfl rfl ag52 rfl ?_
    refine sr_len rfl rfl rfl rfl el52 ?_
    refine sr_move rfl rfl rfl rfl ?_
    refine sr_end ?_
    refine st_block ?_
    refine st_loop1 [0, 0] (fun (ka : Nat) => [(3, .pointer (some ⟨b1, 0, none⟩)), (4, .pointer (some ⟨b2, 0, none⟩)), (7, .int .i64 (room1 p.ext.2 (room0 kind glast inner p size) ((ps.take ka).map fun q => q.ext.1))), (30, .slice A ps.length cA), (31, .int .i64 (ps.length : Int)), (32, .int .i64 (ka : Int))]) (fun (ka : Nat) => [cellsC b2 111 [.int .i64 p.ext.1, .int .i64 p.ext.2, .int .i64 p.type, .int .i64 p.slot], cellsC b1 62 [.int .i64 kind, .slice A ps.length cA, .slice B held.length cB, vG, vP, vH, .int .i64 inner.1, .int .i64 inner.2, .bool gd, .int .i64 g1, .int .i64 g2, .int .i64 glast, .int .u8 0, .int .u8 0, .int .u8 0, .int .u8 0, .int .u8 0, .int .u8 0, .int .u8 0, .int .u8 0, .int .u8 0, .int .u8 0, .int .u8 0, .int .u8 0, .int .u8 0, .int .u8 0, .int .u8 0, .int .u8 0, vL, .int .i64 g3, .int .i64 g4]]) (fun (ka : Nat) => ka ≤ ps.length) (fun (ka : Nat) => ps.length - ka) 0 (Nat.zero_le _) ⟨rfl, rfl, congrArg (fun z : Int => some (Value.int .i64 z)) (by simp [room1]), rfl, rfl, rfl, trivial⟩ rfl (fun ka hI2 hk1 => ?_)
    refine st_seq ?_
    refine st_region rfl ?_
    refine sr_bin rfl rfl rfl rfl rfl b_lss ?_
    refine sr_end ?_
    refine st_seq ?_
    refine st_ifD rfl (fun q1 => ?_) (fun q1 => ?_)
    · skip
      refine st_skip ?_
      refine st_seq ?_
      refine st_block ?_
      refine st_seq ?_
      refine st_region rfl ?_
      obtain ⟨B1, O1, eA1, hg_B1, hb_B1⟩ := hA (enc_ne (by omega))
      refine sr_indexRoE rfl rfl rfl rfl rfl el52 eA1 (by (try simp only [List.length_append, List.length_cons, List.length_nil, List.length_set, List.length_replicate, List.length_take, List.length_drop, List.length_map, List.length_range, bytesN_length, List.length_singleton] at *); omega) (by (try simp only [List.length_append, List.length_cons, List.length_nil, List.length_set, List.length_replicate, List.length_take, List.length_drop, List.length_map, List.length_range, bytesN_length, List.length_singleton] at *); omega) ?_
      refine sr_loadAt (p := O1) (off := ka * 4 + 0) rfl rfl rfl rfl rfl (has_cells hg_B1 hb_B1) (rdN (i := ka) (j := 0) ag111 sz111 (⟨(0, 0), 0, 0⟩ : PartV) [.int .i64 ((ps.getD ka (⟨(0, 0), 0, 0⟩ : PartV)).ext.1), .int .i64 ((ps.getD ka (⟨(0, 0), 0, 0⟩ : PartV)).ext.2), .int .i64 ((ps.getD ka (⟨(0, 0), 0, 0⟩ : PartV)).type), .int .i64 ((ps.getD ka (⟨(0, 0), 0, 0⟩ : PartV)).slot)] (by omega) rfl rfl) ?_
      refine sr_alloc rfl rfl rfl ze111 (fun b3 => ?_)
      refine sr_store (k := 0) rfl rfl rfl rfl rfl sz111 rfl rfl rfl rfl ?_
      refine sr_end ?_
      refine st_seq ?_
      refine st_region rfl ?_
      refine sr_fieldAddr (m := 0) rfl rfl rfl rfl fd111_0 rfl ?_
      refine sr_fieldAddr (m := 0) rfl rfl rfl rfl fd54_0 rfl ?_
      refine sr_load1 (k := 0) rfl rfl rfl rfl rfl ag2 rfl ?_
      refine sr_fieldAddr (m := 0) rfl rfl rfl rfl fd111_0 rfl ?_
      refine sr_fieldAddr (m := 1) rfl rfl rfl rfl fd54_1 rfl ?_
      refine sr_load1 (k := 1) rfl rfl rfl rfl rfl ag2 rfl ?_
      refine sr_bin rfl rfl rfl rfl rfl b_geq ?_
      refine sr_end ?_
      refine st_ifD rfl (fun q2 => ?_) (fun q2 => ?_)
      · skip
        refine st_region rfl ?_
        refine sr_move rfl rfl rfl rfl ?_
        refine sr_fieldAddr (m := 0) rfl rfl rfl rfl fd111_0 rfl ?_
        refine sr_fieldAddr (m := 0) rfl rfl rfl rfl fd54_0 rfl ?_
        refine sr_load1 (k := 0) rfl rfl rfl rfl rfl ag2 rfl ?_
        refine sr_min rfl rfl rfl rfl rfl ?_
        refine sr_assign rfl rfl rfl rfl ?_
        refine sr_end ?_
        refine st_inBlock ?_
        refine st_region rfl ?_
        refine sr_bin rfl rfl rfl rfl rfl (b_addI (by (try simp only [List.length_append, List.length_cons, List.length_nil, List.length_set, List.length_replicate, List.length_take, List.length_drop, List.length_map, List.length_range, bytesN_length, List.length_singleton] at *); omega) (by (try simp only [List.length_append, List.length_cons, List.length_nil, List.length_set, List.length_replicate, List.length_take, List.length_drop, List.length_map, List.length_range, bytesN_length, List.length_singleton] at *); omega)) ?_
        refine sr_move rfl rfl rfl rfl ?_
        refine sr_end ?_
        have hks : ka < ps.length := (by omega)
        exact st_go [1, 1] (hk1 (ka + 1) (by omega) (by omega)) ⟨rfl, rfl, congrArg (fun z : Int => some (Value.int .i64 z)) (by rw [room1_part hks, minFrom, if_pos (by assumption)]), rfl, rfl, congrArg (fun z : Int => some (Value.int .i64 z)) (by omega), trivial⟩ rfl
      · skip
        refine st_skip ?_
        refine st_inBlock ?_
        refine st_region rfl ?_
        refine sr_bin rfl rfl rfl rfl rfl (b_addI (by (try simp only [List.length_append, List.length_cons, List.length_nil, List.length_set, List.length_replicate, List.length_take, List.length_drop, List.length_map, List.length_range, bytesN_length, List.length_singleton] at *); omega) (by (try simp only [List.length_append, List.length_cons, List.length_nil, List.length_set, List.length_replicate, List.length_take, List.length_drop, List.length_map, List.length_range, bytesN_length, List.length_singleton] at *); omega)) ?_
        refine sr_move rfl rfl rfl rfl ?_
        refine sr_end ?_
        have hks : ka < ps.length := (by omega)
        exact st_go [1, 1] (hk1 (ka + 1) (by omega) (by omega)) ⟨rfl, rfl, congrArg (fun z : Int => some (Value.int .i64 z)) (by rw [room1_part hks, minFrom, if_neg (by assumption)]), rfl, rfl, congrArg (fun z : Int => some (Value.int .i64 z)) (by omega), trivial⟩ rfl
    · skip
      refine st_exit rfl ?_
      refine st_seq ?_
      refine st_seq ?_
      refine st_region rfl ?_
      refine sr_fieldAddr (m := 2) rfl rfl rfl rfl fd62_2 rfl ?_
      refine sr_load1 (k := 1) rfl rfl rfl rfl rfl ag35 rfl ?_
      refine sr_len rfl rfl rfl rfl el35 ?_
      refine sr_move rfl rfl rfl rfl ?_
      refine sr_end ?_
      refine st_block ?_
      refine st_loop1 [0, 0] (fun (kb : Nat) => [(3, .pointer (some ⟨b1, 0, none⟩)), (4, .pointer (some ⟨b2, 0, none⟩)), (7, .int .i64 (room1 p.ext.2 (room1 p.ext.2 (room0 kind glast inner p size) (ps.map fun q => q.ext.1)) ((held.take kb).map Prod.fst))), (50, .slice B held.length cB), (51, .int .i64 (held.length : Int)), (52, .int .i64 (kb : Int))]) (fun (kb : Nat) => [cellsC b2 111 [.int .i64 p.ext.1, .int .i64 p.ext.2, .int .i64 p.type, .int .i64 p.slot], cellsC b1 62 [.int .i64 kind, .slice A ps.length cA, .slice B held.length cB, vG, vP, vH, .int .i64 inner.1, .int .i64 inner.2, .bool gd, .int .i64 g1, .int .i64 g2, .int .i64 glast, .int .u8 0, .int .u8 0, .int .u8 0, .int .u8 0, .int .u8 0, .int .u8 0, .int .u8 0, .int .u8 0, .int .u8 0, .int .u8 0, .int .u8 0, .int .u8 0, .int .u8 0, .int .u8 0, .int .u8 0, .int .u8 0, vL, .int .i64 g3, .int .i64 g4]]) (fun (kb : Nat) => kb ≤ held.length) (fun (kb : Nat) => held.length - kb) 0 (Nat.zero_le _) ⟨rfl, rfl, congrArg (fun z : Int => some (Value.int .i64 z)) (by rw [show ka = ps.length by omega, List.take_length]; simp [room1]), rfl, rfl, rfl, trivial⟩ rfl (fun kb hI3 hk2 => ?_)
      refine st_seq ?_
      refine st_region rfl ?_
      refine sr_bin rfl rfl rfl rfl rfl b_lss ?_
      refine sr_end ?_
      refine st_seq ?_
      refine st_ifD rfl (fun q3 => ?_) (fun q3 => ?_)
      · skip
        refine st_skip ?_
        refine st_seq ?_
        refine st_block ?_
        refine st_seq ?_
        refine st_region rfl ?_
        obtain ⟨B2, O2, eA2, hg_B2, hb_B2⟩ := hB (enc_ne (by omega))
        refine sr_indexRoE rfl rfl rfl rfl rfl el35 eA2 (by (try simp only [List.length_append, List.length_cons, List.length_nil, List.length_set, List.length_replicate, List.length_take, List.length_drop, List.length_map, List.length_range, bytesN_length, List.length_singleton] at *); omega) (by (try simp only [List.length_append, List.length_cons, List.length_nil, List.length_set, List.length_replicate, List.length_take, List.length_drop, List.length_map, List.length_range, bytesN_length, List.length_singleton] at *); omega) ?_
        refine sr_loadAt (p := O2) (off := kb * 2 + 0) rfl rfl rfl rfl rfl (has_cells hg_B2 hb_B2) (rdN (i := kb) (j := 0) ag54 sz54 ((0, 0) : Int × Int) [.int .i64 ((held.getD kb ((0, 0) : Int × Int)).1), .int .i64 ((held.getD kb ((0, 0) : Int × Int)).2)] (by omega) rfl rfl) ?_
        refine sr_alloc rfl rfl rfl ze54 (fun b4 => ?_)
        refine sr_store (k := 0) rfl rfl rfl rfl rfl sz54 rfl rfl rfl rfl ?_
        refine sr_end ?_
        refine st_seq ?_
        refine st_region rfl ?_
        refine sr_fieldAddr (m := 0) rfl rfl rfl rfl fd54_0 rfl ?_
        refine sr_load1 (k := 0) rfl rfl rfl rfl rfl ag2 rfl ?_
        refine sr_fieldAddr (m := 0) rfl rfl rfl rfl fd111_0 rfl ?_
        refine sr_fieldAddr (m := 1) rfl rfl rfl rfl fd54_1 rfl ?_
        refine sr_load1 (k := 1) rfl rfl rfl rfl rfl ag2 rfl ?_
        refine sr_bin rfl rfl rfl rfl rfl b_geq ?_
        refine sr_end ?_
        refine st_ifD rfl (fun q4 => ?_) (fun q4 => ?_)
        · skip
          refine st_region rfl ?_
          refine sr_move rfl rfl rfl rfl ?_
          refine sr_fieldAddr (m := 0) rfl rfl rfl rfl fd54_0 rfl ?_
          refine sr_load1 (k := 0) rfl rfl rfl rfl rfl ag2 rfl ?_
          refine sr_min rfl rfl rfl rfl rfl ?_
          refine sr_assign rfl rfl rfl rfl ?_
          refine sr_end ?_
          refine st_inBlock ?_
          refine st_region rfl ?_
          refine sr_bin rfl rfl rfl rfl rfl (b_addI (by (try simp only [List.length_append, List.length_cons, List.length_nil, List.length_set, List.length_replicate, List.length_take, List.length_drop, List.length_map, List.length_range, bytesN_length, List.length_singleton] at *); omega) (by (try simp only [List.length_append, List.length_cons, List.length_nil, List.length_set, List.length_replicate, List.length_take, List.length_drop, List.length_map, List.length_range, bytesN_length, List.length_singleton] at *); omega)) ?_
          refine sr_move rfl rfl rfl rfl ?_
          refine sr_end ?_
          have hks : kb < held.length := (by omega)
          exact st_go [1, 1] (hk2 (kb + 1) (by omega) (by omega)) ⟨rfl, rfl, congrArg (fun z : Int => some (Value.int .i64 z)) (by rw [room1_held hks, minFrom, if_pos (by assumption)]), rfl, rfl, congrArg (fun z : Int => some (Value.int .i64 z)) (by omega), trivial⟩ rfl
        · skip
          refine st_skip ?_
          refine st_inBlock ?_
          refine st_region rfl ?_
          refine sr_bin rfl rfl rfl rfl rfl (b_addI (by (try simp only [List.length_append, List.length_cons, List.length_nil, List.length_set, List.length_replicate, List.length_take, List.length_drop, List.length_map, List.length_range, bytesN_length, List.length_singleton] at *); omega) (by (try simp only [List.length_append, List.length_cons, List.length_nil, List.length_set, List.length_replicate, List.length_take, List.length_drop, List.length_map, List.length_range, bytesN_length, List.length_singleton] at *); omega)) ?_
          refine sr_move rfl rfl rfl rfl ?_
          refine sr_end ?_
          have hks : kb < held.length := (by omega)
          exact st_go [1, 1] (hk2 (kb + 1) (by omega) (by omega)) ⟨rfl, rfl, congrArg (fun z : Int => some (Value.int .i64 z)) (by rw [room1_held hks, minFrom, if_neg (by assumption)]), rfl, rfl, congrArg (fun z : Int => some (Value.int .i64 z)) (by omega), trivial⟩ rfl
      · skip
        refine st_exit rfl ?_
        refine st_seq ?_
        refine st_seq ?_
        refine st_region rfl ?_
        refine sr_fieldAddr (m := 4) rfl rfl rfl rfl fd62_4 rfl ?_
        refine sr_fieldAddr (m := 6) rfl rfl rfl rfl fd56_2 rfl ?_
        refine sr_loadN (k := 1) (vs := [.int .i64 inner.1, .int .i64 inner.2]) rfl rfl rfl rfl rfl ag54 sz54 rfl rfl ?_
        refine sr_alloc rfl rfl rfl ze54 (fun b5 => ?_)
        refine sr_store (k := 0) rfl rfl rfl rfl rfl sz54 rfl rfl rfl rfl ?_
        refine sr_end ?_
        refine st_seq ?_
        refine st_region rfl ?_
        refine sr_fieldAddr (m := 0) rfl rfl rfl rfl fd62_0 rfl ?_
        refine sr_load1 (k := 2) rfl rfl rfl rfl rfl ag3 rfl ?_
        refine sr_bin rfl rfl rfl rfl rfl b_eql ?_
        refine sr_move rfl rfl rfl rfl ?_
        refine sr_caseD (t := 73) rfl (fun c1 => ?_) (fun c1 => ?_)
        · skip
          refine sr_fieldAddr (m := 3) rfl rfl rfl rfl fd111_2 rfl ?_
          refine sr_load1 (k := 1) rfl rfl rfl rfl rfl ag3 rfl ?_
          refine sr_bin rfl rfl rfl rfl rfl b_lss ?_
          refine sr_pickT rfl rfl rfl rfl rfl ?_
          refine sr_move rfl rfl rfl rfl ?_
          refine sr_caseD (t := 78) rfl (fun c2 => ?_) (fun c2 => ?_)
          · skip
            refine sr_fieldAddr (m := 1) rfl rfl rfl rfl fd54_1 rfl ?_
            refine sr_load1 (k := 0) rfl rfl rfl rfl rfl ag2 rfl ?_
            refine sr_fieldAddr (m := 0) rfl rfl rfl rfl fd54_0 rfl ?_
            refine sr_load1 (k := 0) rfl rfl rfl rfl rfl ag2 rfl ?_
            refine sr_bin rfl rfl rfl rfl rfl b_gtr ?_
            refine sr_pickT rfl rfl rfl rfl rfl ?_
            refine sr_move rfl rfl rfl rfl ?_
            refine sr_caseD (t := 85) rfl (fun c3 => ?_) (fun c3 => ?_)
            · skip
              refine sr_fieldAddr (m := 0) rfl rfl rfl rfl fd54_0 rfl ?_
              refine sr_load1 (k := 0) rfl rfl rfl rfl rfl ag2 rfl ?_
              refine sr_fieldAddr (m := 0) rfl rfl rfl rfl fd111_0 rfl ?_
              refine sr_fieldAddr (m := 1) rfl rfl rfl rfl fd54_1 rfl ?_
              refine sr_load1 (k := 1) rfl rfl rfl rfl rfl ag2 rfl ?_
              refine sr_bin rfl rfl rfl rfl rfl b_geq ?_
              refine sr_pickT rfl rfl rfl rfl rfl ?_
              refine sr_end ?_
              refine st_ifD rfl (fun c4 => ?_) (fun c4 => ?_)
              · have hin : kind = 1 ∧ p.slot < 4 ∧ inner.1 < inner.2 ∧ p.ext.2 ≤ inner.1 := ⟨c1, c2, c3, c4⟩
                refine st_region rfl ?_
                refine sr_move rfl rfl rfl rfl ?_
                refine sr_fieldAddr (m := 0) rfl rfl rfl rfl fd54_0 rfl ?_
                refine sr_load1 (k := 0) rfl rfl rfl rfl rfl ag2 rfl ?_
                refine sr_min rfl rfl rfl rfl rfl ?_
                refine sr_assign rfl rfl rfl rfl ?_
                refine sr_end ?_
                refine st_seq ?_
                refine st_region rfl ?_
                refine sr_move rfl rfl rfl rfl ?_
                refine sr_assign rfl rfl rfl rfl ?_
                refine sr_end ?_
                have e1 : ka = ps.length := (by omega)
                have e2 : kb = held.length := (by omega)
                exact st_retC () [] Try.func47 rfl rfl (congrArg (Value.int .i64) (by unfold roomF; subst e1 e2; rw [List.take_length, if_pos hin])) trivial rfl
              · have hin : ¬ (kind = 1 ∧ p.slot < 4 ∧ inner.1 < inner.2 ∧ p.ext.2 ≤ inner.1) := (fun h => c4 h.2.2.2)
                refine st_skip ?_
                refine st_seq ?_
                refine st_region rfl ?_
                refine sr_move rfl rfl rfl rfl ?_
                refine sr_assign rfl rfl rfl rfl ?_
                refine sr_end ?_
                have e1 : ka = ps.length := (by omega)
                have e2 : kb = held.length := (by omega)
                exact st_retC () [] Try.func47 rfl rfl (congrArg (Value.int .i64) (by unfold roomF; subst e1 e2; rw [List.take_length, if_neg hin])) trivial rfl
            · have hin : ¬ (kind = 1 ∧ p.slot < 4 ∧ inner.1 < inner.2 ∧ p.ext.2 ≤ inner.1) := (fun h => c3 h.2.2.1)
              refine sr_off rfl rfl rfl ?_
              refine sr_off rfl rfl rfl ?_
              refine sr_off rfl rfl rfl ?_
              refine sr_off rfl rfl rfl ?_
              refine sr_off rfl rfl rfl ?_
              refine sr_off rfl rfl rfl ?_
              refine sr_pickF rfl rfl rfl rfl rfl ?_
              refine sr_end ?_
              refine st_false rfl ?_
              refine st_skip ?_
              refine st_seq ?_
              refine st_region rfl ?_
              refine sr_move rfl rfl rfl rfl ?_
              refine sr_assign rfl rfl rfl rfl ?_
              refine sr_end ?_
              have e1 : ka = ps.length := (by omega)
              have e2 : kb = held.length := (by omega)
              exact st_retC () [] Try.func47 rfl rfl (congrArg (Value.int .i64) (by unfold roomF; subst e1 e2; rw [List.take_length, if_neg hin])) trivial rfl
          · have hin : ¬ (kind = 1 ∧ p.slot < 4 ∧ inner.1 < inner.2 ∧ p.ext.2 ≤ inner.1) := (fun h => c2 h.2.1)
            refine sr_off rfl rfl rfl ?_
            refine sr_off rfl rfl rfl ?_
            refine sr_off rfl rfl rfl ?_
            refine sr_off rfl rfl rfl ?_
            refine sr_off rfl rfl rfl ?_
            refine sr_pickF rfl rfl rfl rfl rfl ?_
            refine sr_move rfl rfl rfl rfl ?_
            refine sr_off rfl rfl rfl ?_
            refine sr_off rfl rfl rfl ?_
            refine sr_off rfl rfl rfl ?_
            refine sr_off rfl rfl rfl ?_
            refine sr_off rfl rfl rfl ?_
            refine sr_off rfl rfl rfl ?_
            refine sr_pickF rfl rfl rfl rfl rfl ?_
            refine sr_end ?_
            refine st_false rfl ?_
            refine st_skip ?_
            refine st_seq ?_
            refine st_region rfl ?_
            refine sr_move rfl rfl rfl rfl ?_
            refine sr_assign rfl rfl rfl rfl ?_
            refine sr_end ?_
            have e1 : ka = ps.length := (by omega)
            have e2 : kb = held.length := (by omega)
            exact st_retC () [] Try.func47 rfl rfl (congrArg (Value.int .i64) (by unfold roomF; subst e1 e2; rw [List.take_length, if_neg hin])) trivial rfl
        · have hin : ¬ (kind = 1 ∧ p.slot < 4 ∧ inner.1 < inner.2 ∧ p.ext.2 ≤ inner.1) := (fun h => c1 h.1)
          refine sr_off rfl rfl rfl ?_
          refine sr_off rfl rfl rfl ?_
          refine sr_off rfl rfl rfl ?_
          refine sr_pickF rfl rfl rfl rfl rfl ?_
          refine sr_move rfl rfl rfl rfl ?_
          refine sr_off rfl rfl rfl ?_
          refine sr_off rfl rfl rfl ?_
          refine sr_off rfl rfl rfl ?_
          refine sr_off rfl rfl rfl ?_
          refine sr_off rfl rfl rfl ?_
          refine sr_pickF rfl rfl rfl rfl rfl ?_
          refine sr_move rfl rfl rfl rfl ?_
          refine sr_off rfl rfl rfl ?_
          refine sr_off rfl rfl rfl ?_
          refine sr_off rfl rfl rfl ?_
          refine sr_off rfl rfl rfl ?_
          refine sr_off rfl rfl rfl ?_
          refine sr_off rfl rfl rfl ?_
          refine sr_pickF rfl rfl rfl rfl rfl ?_
          refine sr_end ?_
          refine st_false rfl ?_
          refine st_skip ?_
          refine st_seq ?_
          refine st_region rfl ?_
          refine sr_move rfl rfl rfl rfl ?_
          refine sr_assign rfl rfl rfl rfl ?_
          refine sr_end ?_
          have e1 : ka = ps.length := (by omega)
          have e2 : kb = held.length := (by omega)
          exact st_retC () [] Try.func47 rfl rfl (congrArg (Value.int .i64) (by unfold roomF; subst e1 e2; rw [List.take_length, if_neg hin])) trivial rfl
  · skip
    refine st_ifD rfl (fun g16 => ?_) (fun g16 => ?_)
    · skip
      refine st_region rfl ?_
      refine sr_fieldAddr (m := 9) rfl rfl rfl rfl fd62_5 rfl ?_
      refine sr_fieldAddr (m := 11) rfl rfl rfl rfl fd60_2 rfl ?_
      refine sr_load1 (k := 1) rfl rfl rfl rfl rfl ag2 rfl ?_
      refine sr_bin rfl rfl rfl rfl rfl (b_addI (by omega) (by omega)) ?_
      refine sr_bin rfl rfl rfl rfl rfl (b_mulI (by (try simp only [List.length_append, List.length_cons, List.length_nil, List.length_set, List.length_replicate, List.length_take, List.length_drop, List.length_map, List.length_range, bytesN_length, List.length_singleton] at *); omega) (by (try simp only [List.length_append, List.length_cons, List.length_nil, List.length_set, List.length_replicate, List.length_take, List.length_drop, List.length_map, List.length_range, bytesN_length, List.length_singleton] at *); omega)) ?_
      refine sr_assign rfl rfl rfl rfl ?_
      refine sr_end ?_
      exact st_go [0, 0] (hj1) ⟨rfl, rfl, congrArg (fun z : Int => some (Value.int .i64 z)) (by unfold room0; rw [if_pos g16]), trivial⟩ rfl
    · skip
      refine st_seq ?_
      refine st_region rfl ?_
      refine sr_fieldAddr (m := 3) rfl rfl rfl rfl fd111_2 rfl ?_
      refine sr_load1 (k := 0) rfl rfl rfl rfl rfl ag3 rfl ?_
      refine sr_bin rfl rfl rfl rfl rfl b_geq ?_
      refine sr_end ?_
      refine st_ifD rfl (fun g24 => ?_) (fun g24 => ?_)
      · skip
        refine st_region rfl ?_
        refine sr_fieldAddr (m := 4) rfl rfl rfl rfl fd62_4 rfl ?_
        refine sr_fieldAddr (m := 6) rfl rfl rfl rfl fd56_2 rfl ?_
        refine sr_fieldAddr (m := 7) rfl rfl rfl rfl fd54_1 rfl ?_
        refine sr_load1 (k := 1) rfl rfl rfl rfl rfl ag2 rfl ?_
        refine sr_assign rfl rfl rfl rfl ?_
        refine sr_end ?_
        exact st_go [0, 0] (hj1) ⟨rfl, rfl, congrArg (fun z : Int => some (Value.int .i64 z)) (by unfold room0; rw [if_neg g16, if_pos g24]), trivial⟩ rfl
      · skip
        refine st_skip ?_
        exact st_go [0, 0] (hj1) ⟨rfl, rfl, congrArg (fun z : Int => some (Value.int .i64 z)) (by unfold room0; rw [if_neg g16, if_neg g24]), trivial⟩ rfl

end Try
end Go.Sl

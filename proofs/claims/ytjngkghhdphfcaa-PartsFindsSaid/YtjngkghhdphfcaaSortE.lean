/- A part of the proof: words and contracts that the row is built on. -/
import Derived.Test.YtjngkghhdphfcaaG5
import Derived.Test.YtjngkghhdphfcaaSortK
import Derived.Shelf.SlSortCmp.NoneTotal
import Derived.Shelf.SlicesG.Cmp
import Derived.Ground.SlsfProg
import Derived.Ground.SlgcProg
namespace Go.Proofs
open Go.Shelf Go.RowKit Go.Lib Go.Sort
def Try.sortE_ren : Go.Shelf.Ren := ⟨fun | 6 => 70 | 15 => 85 | 14 => 92 | 28 => 106 | 29 => 107 | 20 => 108 | 21 => 109 | 22 => 110 | 23 => 111 | 24 => 112 | 25 => 113 | 26 => 114 | 27 => 115 | 46 => 124 | 47 => 120 | 48 => 121 | 49 => 125 | 50 => 126 | 57 => 129 | n => n, fun | 22 => 34 | 24 => 54 | 25 => 147 | 3 => 3 | 39 => 172 | 0 => 0 | 53 => 131 | 55 => 93 | 4 => 4 | 46 => 186 | 45 => 185 | 50 => 190 | 5 => 5 | 9 => 9 | 66 => 204 | 70 => 208 | 76 => 213 | 77 => 214 | n => n, fun | n => n⟩
theorem Try.sortE : Go.Proofs.SlLaysF0.n6 Try.prog Try.sortE_ren := {
  mixed := by kernel_rfl
  f6 := ⟨Try.f70.name, by decide, Try.func70.trans (congrArg some (by kernel_rfl))⟩
  f14 := ⟨Try.f92.name, by decide, Try.func92.trans (congrArg some (by kernel_rfl))⟩
  f15 := Try.func85.trans (congrArg some (by kernel_rfl))
  f20 := ⟨Try.f108.name, by decide, Try.func108.trans (congrArg some (by kernel_rfl))⟩
  f21 := ⟨Try.f109.name, by decide, Try.func109.trans (congrArg some (by kernel_rfl))⟩
  f22 := ⟨Try.f110.name, by decide, Try.func110.trans (congrArg some (by kernel_rfl))⟩
  f23 := ⟨Try.f111.name, by decide, Try.func111.trans (congrArg some (by kernel_rfl))⟩
  f24 := ⟨Try.f112.name, by decide, Try.func112.trans (congrArg some (by kernel_rfl))⟩
  f25 := ⟨Try.f113.name, by decide, Try.func113.trans (congrArg some (by kernel_rfl))⟩
  f26 := ⟨Try.f114.name, by decide, Try.func114.trans (congrArg some (by kernel_rfl))⟩
  f27 := ⟨Try.f115.name, by decide, Try.func115.trans (congrArg some (by kernel_rfl))⟩
  f28 := Try.func106.trans (congrArg some (by kernel_rfl))
  f29 := Try.func107.trans (congrArg some (by kernel_rfl))
  f46 := ⟨Try.f124.name, by decide, Try.func124.trans (congrArg some (by kernel_rfl))⟩
  f47 := Try.func120.trans (congrArg some (by kernel_rfl))
  f48 := Try.func121.trans (congrArg some (by kernel_rfl))
  f49 := ⟨Try.f125.name, by decide, Try.func125.trans (congrArg some (by kernel_rfl))⟩
  f50 := ⟨Try.f126.name, by decide, Try.func126.trans (congrArg some (by kernel_rfl))⟩
  f57 := ⟨Try.f129.name, by decide, Try.func129.trans (congrArg some (by kernel_rfl))⟩
  t0 := Try.underlying0
  a0 := Try.isAgg0
  z0 := Try.sizeOf0
  v0 := Try.zeroValue0
  t3 := Try.underlying3
  a3 := Try.isAgg3
  z3 := Try.sizeOf3
  v3 := Try.zeroValue3
  t4 := Try.underlying4
  a4 := Try.isAgg4
  z4 := Try.sizeOf4
  v4 := Try.zeroValue4
  t5 := Try.underlying5
  a5 := Try.isAgg5
  z5 := Try.sizeOf5
  v5 := Try.zeroValue5
  t9 := Try.underlying9
  a9 := Try.isAgg9
  z9 := Try.sizeOf9
  v9 := Try.zeroValue9
  t22 := Try.underlying34
  a22 := Try.isAgg34
  z22 := Try.sizeOf34
  v22 := Try.zeroValue34
  t25 := Try.underlying147
  a25 := Try.isAgg147
  z25 := Try.sizeOf147
  v25 := Try.zeroValue147
  t39 := Try.underlying172
  a39 := Try.isAgg172
  z39 := Try.sizeOf172
  v39 := Try.zeroValue172
  t45 := Try.underlying185
  a45 := Try.isAgg185
  z45 := Try.sizeOf185
  v45 := Try.zeroValue185
  t46 := Try.underlying186
  a46 := Try.isAgg186
  z46 := Try.sizeOf186
  v46 := Try.zeroValue186
  t50 := Try.underlying190
  a50 := Try.isAgg190
  z50 := Try.sizeOf190
  v50 := Try.zeroValue190
  t53 := Try.underlying131
  a53 := Try.isAgg131
  z53 := Try.sizeOf131
  v53 := Try.zeroValue131
  t55 := Try.underlying93
  a55 := Try.isAgg93
  z55 := Try.sizeOf93
  v55 := Try.zeroValue93
  t66 := Try.underlying204
  a66 := Try.isAgg204
  z66 := Try.sizeOf204
  v66 := Try.zeroValue204
  t70 := Try.underlying208
  a70 := Try.isAgg208
  z70 := Try.sizeOf208
  v70 := Try.zeroValue208
  t76 := Try.underlying213
  a76 := Try.isAgg213
  z76 := Try.sizeOf213
  v76 := Try.zeroValue213
  t77 := Try.underlying214
  a77 := Try.isAgg214
  z77 := Try.sizeOf214
  v77 := Try.zeroValue214 }
def Try.sortP_ren : Go.Shelf.Ren := ⟨fun | 6 => 53 | 15 => 85 | 14 => 84 | 28 => 106 | 29 => 107 | 20 => 98 | 21 => 99 | 22 => 100 | 23 => 101 | 24 => 102 | 25 => 103 | 26 => 104 | 27 => 105 | 46 => 119 | 47 => 120 | 48 => 121 | 49 => 122 | 50 => 123 | 57 => 128 | n => n, fun | 22 => 52 | 24 => 111 | 25 => 121 | 3 => 3 | 39 => 172 | 0 => 0 | 53 => 131 | 55 => 93 | 4 => 4 | 46 => 186 | 45 => 185 | 50 => 190 | 5 => 5 | 9 => 9 | 66 => 204 | 70 => 208 | 76 => 213 | 77 => 214 | n => n, fun | n => n⟩
theorem Try.sortP : Go.Proofs.SlLaysF0.n6 Try.prog Try.sortP_ren := {
  mixed := by kernel_rfl
  f6 := ⟨Try.f53.name, by decide, Try.func53.trans (congrArg some (by kernel_rfl))⟩
  f14 := ⟨Try.f84.name, by decide, Try.func84.trans (congrArg some (by kernel_rfl))⟩
  f15 := Try.func85.trans (congrArg some (by kernel_rfl))
  f20 := ⟨Try.f98.name, by decide, Try.func98.trans (congrArg some (by kernel_rfl))⟩
  f21 := ⟨Try.f99.name, by decide, Try.func99.trans (congrArg some (by kernel_rfl))⟩
  f22 := ⟨Try.f100.name, by decide, Try.func100.trans (congrArg some (by kernel_rfl))⟩
  f23 := ⟨Try.f101.name, by decide, Try.func101.trans (congrArg some (by kernel_rfl))⟩
  f24 := ⟨Try.f102.name, by decide, Try.func102.trans (congrArg some (by kernel_rfl))⟩
  f25 := ⟨Try.f103.name, by decide, Try.func103.trans (congrArg some (by kernel_rfl))⟩
  f26 := ⟨Try.f104.name, by decide, Try.func104.trans (congrArg some (by kernel_rfl))⟩
  f27 := ⟨Try.f105.name, by decide, Try.func105.trans (congrArg some (by kernel_rfl))⟩
  f28 := Try.func106.trans (congrArg some (by kernel_rfl))
  f29 := Try.func107.trans (congrArg some (by kernel_rfl))
  f46 := ⟨Try.f119.name, by decide, Try.func119.trans (congrArg some (by kernel_rfl))⟩
  f47 := Try.func120.trans (congrArg some (by kernel_rfl))
  f48 := Try.func121.trans (congrArg some (by kernel_rfl))
  f49 := ⟨Try.f122.name, by decide, Try.func122.trans (congrArg some (by kernel_rfl))⟩
  f50 := ⟨Try.f123.name, by decide, Try.func123.trans (congrArg some (by kernel_rfl))⟩
  f57 := ⟨Try.f128.name, by decide, Try.func128.trans (congrArg some (by kernel_rfl))⟩
  t0 := Try.underlying0
  a0 := Try.isAgg0
  z0 := Try.sizeOf0
  v0 := Try.zeroValue0
  t3 := Try.underlying3
  a3 := Try.isAgg3
  z3 := Try.sizeOf3
  v3 := Try.zeroValue3
  t4 := Try.underlying4
  a4 := Try.isAgg4
  z4 := Try.sizeOf4
  v4 := Try.zeroValue4
  t5 := Try.underlying5
  a5 := Try.isAgg5
  z5 := Try.sizeOf5
  v5 := Try.zeroValue5
  t9 := Try.underlying9
  a9 := Try.isAgg9
  z9 := Try.sizeOf9
  v9 := Try.zeroValue9
  t22 := Try.underlying52
  a22 := Try.isAgg52
  z22 := Try.sizeOf52
  v22 := Try.zeroValue52
  t25 := Try.underlying121
  a25 := Try.isAgg121
  z25 := Try.sizeOf121
  v25 := Try.zeroValue121
  t39 := Try.underlying172
  a39 := Try.isAgg172
  z39 := Try.sizeOf172
  v39 := Try.zeroValue172
  t45 := Try.underlying185
  a45 := Try.isAgg185
  z45 := Try.sizeOf185
  v45 := Try.zeroValue185
  t46 := Try.underlying186
  a46 := Try.isAgg186
  z46 := Try.sizeOf186
  v46 := Try.zeroValue186
  t50 := Try.underlying190
  a50 := Try.isAgg190
  z50 := Try.sizeOf190
  v50 := Try.zeroValue190
  t53 := Try.underlying131
  a53 := Try.isAgg131
  z53 := Try.sizeOf131
  v53 := Try.zeroValue131
  t55 := Try.underlying93
  a55 := Try.isAgg93
  z55 := Try.sizeOf93
  v55 := Try.zeroValue93
  t66 := Try.underlying204
  a66 := Try.isAgg204
  z66 := Try.sizeOf204
  v66 := Try.zeroValue204
  t70 := Try.underlying208
  a70 := Try.isAgg208
  z70 := Try.sizeOf208
  v70 := Try.zeroValue208
  t76 := Try.underlying213
  a76 := Try.isAgg213
  z76 := Try.sizeOf213
  v76 := Try.zeroValue213
  t77 := Try.underlying214
  a77 := Try.isAgg214
  z77 := Try.sizeOf214
  v77 := Try.zeroValue214 }
def Try.cmpInt_ren : Go.Shelf.Ren := ⟨fun | 5 => 55 | 7 => 86 | n => n, fun | 22 => 2 | 3 => 3 | 4 => 4 | n => n, fun | n => n⟩
theorem Try.cmpInt : Go.Proofs.SlLaysC2.n5 Try.prog Try.cmpInt_ren := {
  mixed := by kernel_rfl
  f5 := ⟨Try.f55.name, by decide, Try.func55.trans (congrArg some (by kernel_rfl))⟩
  f7 := ⟨Try.f86.name, by decide, Try.func86.trans (congrArg some (by kernel_rfl))⟩
  t3 := Try.underlying3
  a3 := Try.isAgg3
  z3 := Try.sizeOf3
  v3 := Try.zeroValue3
  t4 := Try.underlying4
  a4 := Try.isAgg4
  z4 := Try.sizeOf4
  v4 := Try.zeroValue4
  t22 := Try.underlying2
  a22 := Try.isAgg2
  z22 := Try.sizeOf2
  v22 := Try.zeroValue2 }
end Go.Proofs
namespace Go.Sl
open Go.RowKit Go.Proofs Go.Shelf Go.Lib Go.Sort
set_option linter.unusedVariables false
namespace Try
set_option maxHeartbeats 1000000 in
theorem closureE (x y : Int × Int) (W : World) : Calls Try.prog 71 #[.agg #[.int .i64 x.1, .int .i64 x.2], .agg #[.int .i64 y.1, .int .i64 y.2]] W fun e w' => e = .returned (.int .i64 (Lib.compareInt x.1 y.1)) ∧ ∃ q os', w' = grow (W.drewN q) os' := by
  have hcon := fun W' => AnyG.cmp_Compare_int Try.cmpInt x.1 y.1 W'
  change ∀ W', Calls Try.prog 55 _ _ _ at hcon
  generalize Lib.compareInt x.1 y.1 = r at hcon ⊢
  go_enter Try.func71, Try.ntmps71
  go_wp2_with (go_at_call 55; refine (hcon _).mono ?_; rintro e w' ⟨rfl, rfl⟩)
  go_ret
  exact ⟨rfl, 0, _, by rw [alloc_eq_grow, alloc_eq_grow, grow_grow]; rfl⟩
theorem ltLoE (x y : Int × Int) : ltOf (fun x y : Int × Int => Lib.compareInt x.1 y.1) x y = decide (x.1 < y.1) := by
  unfold ltOf Lib.compareInt
  by_cases h1 : x.1 < y.1
  · simp [h1]
  · by_cases h2 : y.1 < x.1 <;> simp [h1, h2]
theorem swoLoE : SWO (ltOf fun x y : Int × Int => Lib.compareInt x.1 y.1) := {
  irrefl := fun x => by rw [ltLoE]; simp
  trans := fun x y z h1 h2 => by rw [ltLoE] at *; simp at *; omega
  ntrans := fun x y z h1 h2 => by rw [ltLoE] at *; simp at *; omega }
theorem agSE : aggB Try.prog 54 = some true := by kernel_rfl
theorem szSE : szOf Try.prog 54 = some 2 := by kernel_rfl
theorem SortE_ok (w : World) (o : Option Nat) (cap : Nat) (xs : List (Int × Int)) (hn : xs.length ≤ 1000000000000) : Ct Try.prog 70 [rowV o xs.length cap, .func (.func 71) #[] #[]] [rowC o xs.length cap 54 2 (enc xs)] w (fun _ : List (Int × Int) => .tuple #[]) (fun ys => ys.Perm xs ∧ ys.Pairwise fun p q => p.1 ≤ q.1) (fun ys => [rowC o xs.length cap 54 2 (enc ys)]) := fun hp => by
  cases o with
  | none =>
    have h0 := (hp.1.1.1.2.2.2 rfl).1
    have hx : xs = [] := List.length_eq_zero_iff.1 h0
    subst hx
    have hcon := AnyF.slices_SortFunc_none Try.sortE none cap (.func (.func 71) #[] #[]) w
    change Calls Try.prog 70 _ _ _ at hcon
    refine hcon.mono ?_
    rintro e w' ⟨rfl, rfl⟩
    exact ⟨[], rfl, ⟨.refl _, .nil⟩, Kept.refl _ _, hp.weaken fun g hg _ => .inr (mem_bl.2 hg)⟩
  | some b =>
    obtain ⟨hH, hblk⟩ := holds_of_row (α := Int × Int) hp.1.1 rfl
    have eg : ∀ args w, (callFunc 71 args).run Try.prog w = .ok (.enter 71 args) w := fun args w => run_callFunc (by kernel_rfl) args w
    have hcon := AnyQ.slices_SortFunc Try.sortE 2 (fun w => run_isAgg agSE w) (fun w => run_sizeOf szSE w) (Cells.cells (α := Int × Int)) (fun x => Cells.len x) (fun x v hv => Cells.one x v hv) (fun x y => Lib.compareInt x.1 y.1) swoLoE 71 #[] b 0 cap xs.toArray w eg (fun _ _ _ _ x y => closureE x y _) hH hblk (by simp; omega)
    change Calls Try.prog 70 _ _ _ at hcon
    have e1 : #[Value.slice (some ⟨b, 0, none⟩) xs.toArray.size cap, .func (.func 71) #[] #[]] = [rowV (some b) xs.length cap, .func (.func 71) #[] #[]].toArray := by simp [rowV]
    rw [e1] at hcon
    refine hcon.mono ?_
    rintro e w' ⟨rfl, d', m, os, hperm, hs, rfl⟩
    have hsz : d'.size = xs.length := by have := hperm.1; simpa using this
    refine ⟨d'.toList, rfl, ⟨?_, ?_⟩, ?_⟩
    · have := hperm.2.2
      rw [show xs.toArray.size = d'.size by simpa using hsz.symm] at this
      have h3 : (List.take xs.length d'.toList).Perm xs := by simpa [Array.extract_size, hsz] using this
      rwa [List.take_of_length_le (by simp [hsz])] at h3
    · rw [show xs.toArray.size = d'.size by simpa using hsz.symm] at hs
      refine sorted_pairs (fun x y h => ?_) hs
      rw [ltLoE] at h; simp at h; exact h
    · exact upd_of_sorted (α := Int × Int) hp rfl hsz
set_option maxHeartbeats 1000000 in
theorem closureP (x y : PartV) (W : World) : Calls Try.prog 54 #[.agg #[.int .i64 x.ext.1, .int .i64 x.ext.2, .int .i64 x.type, .int .i64 x.slot], .agg #[.int .i64 y.ext.1, .int .i64 y.ext.2, .int .i64 y.type, .int .i64 y.slot]] W fun e w' => e = .returned (.int .i64 (Lib.compareInt x.ext.1 y.ext.1)) ∧ ∃ q os', w' = grow (W.drewN q) os' := by
  have hcon := fun W' => AnyG.cmp_Compare_int Try.cmpInt x.ext.1 y.ext.1 W'
  change ∀ W', Calls Try.prog 55 _ _ _ at hcon
  generalize Lib.compareInt x.ext.1 y.ext.1 = r at hcon ⊢
  go_enter Try.func54, Try.ntmps54
  go_wp2_with (go_at_call 55; refine (hcon _).mono ?_; rintro e w' ⟨rfl, rfl⟩)
  go_ret
  exact ⟨rfl, 0, _, by rw [alloc_eq_grow, alloc_eq_grow, grow_grow]; rfl⟩
theorem ltLoP (x y : PartV) : ltOf (fun x y : PartV => Lib.compareInt x.ext.1 y.ext.1) x y = decide (x.ext.1 < y.ext.1) := by
  unfold ltOf Lib.compareInt
  by_cases h1 : x.ext.1 < y.ext.1
  · simp [h1]
  · by_cases h2 : y.ext.1 < x.ext.1 <;> simp [h1, h2]
theorem swoLoP : SWO (ltOf fun x y : PartV => Lib.compareInt x.ext.1 y.ext.1) := {
  irrefl := fun x => by rw [ltLoP]; simp
  trans := fun x y z h1 h2 => by rw [ltLoP] at *; simp at *; omega
  ntrans := fun x y z h1 h2 => by rw [ltLoP] at *; simp at *; omega }
theorem agSP : aggB Try.prog 111 = some true := by kernel_rfl
theorem szSP : szOf Try.prog 111 = some 4 := by kernel_rfl
theorem SortP_ok (w : World) (o : Option Nat) (cap : Nat) (xs : List (PartV)) (hn : xs.length ≤ 1000000000000) : Ct Try.prog 53 [rowV o xs.length cap, .func (.func 54) #[] #[]] [rowC o xs.length cap 111 4 (enc xs)] w (fun _ : List (PartV) => .tuple #[]) (fun ys => ys.Perm xs ∧ ys.Pairwise fun p q => p.ext.1 ≤ q.ext.1) (fun ys => [rowC o xs.length cap 111 4 (enc ys)]) := fun hp => by
  cases o with
  | none =>
    have h0 := (hp.1.1.1.2.2.2 rfl).1
    have hx : xs = [] := List.length_eq_zero_iff.1 h0
    subst hx
    have hcon := AnyF.slices_SortFunc_none Try.sortP none cap (.func (.func 54) #[] #[]) w
    change Calls Try.prog 53 _ _ _ at hcon
    refine hcon.mono ?_
    rintro e w' ⟨rfl, rfl⟩
    exact ⟨[], rfl, ⟨.refl _, .nil⟩, Kept.refl _ _, hp.weaken fun g hg _ => .inr (mem_bl.2 hg)⟩
  | some b =>
    obtain ⟨hH, hblk⟩ := holds_of_row (α := PartV) hp.1.1 rfl
    have eg : ∀ args w, (callFunc 54 args).run Try.prog w = .ok (.enter 54 args) w := fun args w => run_callFunc (by kernel_rfl) args w
    have hcon := AnyQ.slices_SortFunc Try.sortP 4 (fun w => run_isAgg agSP w) (fun w => run_sizeOf szSP w) (Cells.cells (α := PartV)) (fun x => Cells.len x) (fun x v hv => Cells.one x v hv) (fun x y => Lib.compareInt x.ext.1 y.ext.1) swoLoP 54 #[] b 0 cap xs.toArray w eg (fun _ _ _ _ x y => closureP x y _) hH hblk (by simp; omega)
    change Calls Try.prog 53 _ _ _ at hcon
    have e1 : #[Value.slice (some ⟨b, 0, none⟩) xs.toArray.size cap, .func (.func 54) #[] #[]] = [rowV (some b) xs.length cap, .func (.func 54) #[] #[]].toArray := by simp [rowV]
    rw [e1] at hcon
    refine hcon.mono ?_
    rintro e w' ⟨rfl, d', m, os, hperm, hs, rfl⟩
    have hsz : d'.size = xs.length := by have := hperm.1; simpa using this
    refine ⟨d'.toList, rfl, ⟨?_, ?_⟩, ?_⟩
    · have := hperm.2.2
      rw [show xs.toArray.size = d'.size by simpa using hsz.symm] at this
      have h3 : (List.take xs.length d'.toList).Perm xs := by simpa [Array.extract_size, hsz] using this
      rwa [List.take_of_length_le (by simp [hsz])] at h3
    · rw [show xs.toArray.size = d'.size by simpa using hsz.symm] at hs
      refine sorted_pairs (fun x y h => ?_) hs
      rw [ltLoP] at h; simp at h; exact h
    · exact upd_of_sorted (α := PartV) hp rfl hsz
end Try
end Go.Sl

/- A part of the proof: words and contracts that the row is built on. -/
import Derived.Test.YtjngkghhdphfcaaSlMany
namespace Go.Sl
open Go.RowKit
set_option linter.unusedVariables false
set_option linter.unusedSimpArgs false
section
variable {c : Cx} {ops : Array Oper} {i : Nat} {K : Act → World → Prop} {T : List Item} {L : List (Nat × Value)} {H : List Chunk}
variable {d : Nat} {ty : TypeId} {pos : String} {aft : Array Edge} {g : Option (Nat × Bool)}
theorem all_nil {p : Value → Prop} : ∀ v ∈ ([] : List Value), p v := fun v h => by cases h
theorem all_cons {p : Value → Prop} {v : Value} {vs : List Value} (h : p v) (k : ∀ u ∈ vs, p u) : ∀ u ∈ v :: vs, p u := fun u hu => by exact (List.mem_cons.1 hu).elim (fun e => e ▸ h) (k u)
theorem b_fold {op : BinOp} {t : TypeId} {x y : Operand} {u u' v v' : Value} {P : Program} (h : ∀ w, (do eqGuard op t x y u u'; binOp op t u u' : Sem Value).run P w = .ok v w) (e : v = v') : ∀ w, (do eqGuard op t x y u u'; binOp op t u u' : Sem Value).run P w = .ok v' w := e ▸ h
theorem cv8 {P : Program} {s t : TypeId} {k' k'' : IntKind} {a : Int} (hs : kiOf P s = some k'') (ht : kiOf P t = some .u8) : ∀ w, (convert s t (.int k' a)).run P w = .ok (.int .u8 ((byteOf a).toNat : Int)) w := fun w => by
  obtain ⟨d, hd⟩ : ∃ d, P.underlying s = some d := ⟨_, kiOf_inv hs⟩
  unfold convert
  rw [Sem.run_bind, run_underlying hd]
  simp only [Result.andThen_ok]
  rw [Sem.run_bind, run_underlying (kiOf_inv ht)]
  simp only [Result.andThen_ok, Conv.intToInt, wrap_u8]
  rfl
theorem sr_of_pv {op : Op} {v : Value} (ho : ops[i]? = some ⟨some d, op, ty, pos, aft, g⟩) (hw : wants ops L g = some true) (hN : Nat.blt d c.N = true) (hp : PV c L H ⟨some d, op, ty, pos, aft, g⟩ v) (h : Rk c K ((d, v) :: L) H) : Rk c (wpOp c.P ops (QN c T) i K) L H :=
  sr_pure ho hw hN v (fun a w ha hh => hp a w ha hh) h
theorem sr_indexRoE {t e : TypeId} {z : Nat} {x y : Operand} {A : Option Addr} {b o n cap : Nat} {k : IntKind} {j : Int} (ho : ops[i]? = some ⟨some d, .indexAddr t x y, ty, pos, aft, g⟩) (hw : wants ops L g = some true) (hN : Nat.blt d c.N = true) (hx : ev L x = some (.slice A n cap)) (hy : ev L y = some (.int k j)) (he : elOf c.P t = some (e, z)) (hA : A = some ⟨b, o, none⟩) (h0 : 0 ≤ j) (h1 : j < n)
    (h : Rk c K ((d, .pointer (some ⟨b, o + j.toNat * z, none⟩)) :: L) H) : Rk c (wpOp c.P ops (QN c T) i K) L H := sr_of_pv ho hw hN (pv_indexRo hx hy he hA h0 h1) h
theorem sr_indexRowB {t e : TypeId} {z : Nat} {x y : Operand} {b n cap : Nat} {k : IntKind} {j : Int} (ho : ops[i]? = some ⟨some d, .indexAddr t x y, ty, pos, aft, g⟩) (hw : wants ops L g = some true) (hN : Nat.blt d c.N = true) (hx : ev L x = some (rowV (some b) n cap)) (hy : ev L y = some (.int k j)) (he : elOf c.P t = some (e, z)) (h0 : 0 ≤ j) (h1 : j < n)
    (h : Rk c K ((d, .pointer (some ⟨b, j.toNat * z, none⟩)) :: L) H) : Rk c (wpOp c.P ops (QN c T) i K) L H := sr_of_pv ho hw hN (pv_indexRow hx hy he h0 h1) h
end
/-! ### More lists -/
structure PartV where
  ext : Int × Int
  type : Int
  slot : Int
deriving DecidableEq, Inhabited
structure EntryV where
  type : Int
  first : Int
  count : Int
deriving DecidableEq, Inhabited
instance : Cells PartV := ⟨fun x => [.int .i64 x.ext.1, .int .i64 x.ext.2, .int .i64 x.type, .int .i64 x.slot], 4, by decide, fun _ => rfl, by simp [Value.oneCell']⟩
instance : Cells EntryV := ⟨fun x => [.int .i64 x.type, .int .i64 x.first, .int .i64 x.count], 3, by decide, fun _ => rfl, by simp [Value.oneCell']⟩
instance : Cells Int := ⟨fun x => [.int .i64 x], 1, by decide, fun _ => rfl, by simp [Value.oneCell']⟩
end Go.Sl
namespace Go.Sl
open Go.RowKit
section
variable {T : List Item} {L : List (Nat × Value)} {H : List Chunk} {fn : Func} {P : Program} {f N : Nat} {w0 : World} {G : List Nat} {α : Type} [Cells α]
/-- A row and a number. -/
theorem st_retE2 {t u : Tmp} {et z : Nat} {lst : List α × Int} (x : Option Nat × Nat) (xs : List α) (r : Int) (ks : List Nat) (hf : P.funcs[f]? = some fn) (hr : fn.results = #[.tmp t, .tmp u]) (hv : lk L t = some (rowV x.1 xs.length x.2)) (hu : lk L u = some (.int .i64 r)) (hk : pickH H ks = some [rowC x.1 xs.length x.2 et z (enc xs)]) (he : (xs, r) = lst) :
    St ⟨P, f, N, fun e w' => ∃ x : Option Nat × Nat, e = .returned (.tuple #[rowV x.1 lst.1.length x.2, .int .i64 lst.2]) ∧ True ∧ Upd w0 w' G [rowC x.1 lst.1.length x.2 et z (enc lst.1)], w0, G, [], none⟩ (.code .ret :: T) L H := by
  subst he
  exact st_retC2 (X := Option Nat × Nat) (val := fun x => .tuple #[rowV x.1 xs.length x.2, .int .i64 r]) (Q := fun _ => True) (Hn := fun x => [rowC x.1 xs.length x.2 et z (enc xs)]) x ks hf hr hv hu rfl trivial hk
end
end Go.Sl

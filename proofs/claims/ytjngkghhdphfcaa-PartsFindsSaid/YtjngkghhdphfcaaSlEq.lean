/- A part of the proof: words and contracts that the row is built on. -/
import Derived.Test.YtjngkghhdphfcaaSlMake
import Derived.Laws.StructEq
namespace Go.Sl
open Go.RowKit
set_option linter.unusedVariables false
set_option linter.unusedSimpArgs false
/-! ### Structs of whole numbers, compared -/
def eqShapes (P : Program) (r : TypeId → Option Nat) : List Field → Nat → Option Nat
  | [], off => some off
  | f :: fs, off => if f.name ≠ "_" ∧ f.offset = off then match r f.type, szOf P f.type with
    | some n, some m => if n = m then eqShapes P r fs (off + n) else none
    | _, _ => none else none
def eqShape (P : Program) : Nat → TypeId → Option Nat
  | 0, _ => none
  | d + 1, t => match P.underlying t with
    | some (.int _) => some 1
    | some (.struct fs) => if P.stoodInHeld t then none else eqShapes P (eqShape P d) fs.toList 0
    | _ => none
def ints (xs : List Int) : List Value := xs.map (Value.int .i64)
def vI (b : Bool) (xs : List Int) : Value := if b then .agg (ints xs).toArray else .int .i64 (xs.headD 0)
theorem run_part {P : Program} {t : TypeId} {b : Bool} {n off : Nat} {xs : List Int} {w : World} (hb : aggB P t = some b) (hs : szOf P t = some n) (h1 : b = false → n = 1) (hl : off + n ≤ xs.length) :
    (part t (ints xs).toArray off).run P w = .ok (vI b ((xs.drop off).take n)) w := by
  unfold part
  rw [Sem.run_bind, run_isAgg hb]
  simp only [Result.andThen_ok]
  cases b with
  | true =>
    simp only [if_true]
    rw [Sem.run_bind, run_sizeOf hs]
    simp only [Result.andThen_ok, vI, if_true, Sem.run_pure]
    congr 2
    simp [ints, List.map_drop, List.map_take, List.extract_eq_take_drop]
  | false =>
    obtain rfl := h1 rfl
    have hlt : off < xs.length := by omega
    simp only [Bool.false_eq_true, if_false]
    have : (ints xs).toArray[off]? = some (.int .i64 (xs[off])) := by simp [ints, hlt]
    rw [this]
    simp [vI, List.headD_eq_head?_getD, List.head?_take, hlt]
theorem run_equalInts {P : Program} : ∀ (d D : Nat) (t : TypeId) (n : Nat), eqShape P d t = some n → d ≤ D → ∃ b, aggB P t = some b ∧ (b = false → n = 1) ∧ ∀ (xs ys : List Int) (w : World), xs.length = n → ys.length = n → (Op.equalIn D t (vI b xs) (vI b ys)).run P w = .ok (xs == ys) w
  | 0, _, _, _, h, _ => by simp [eqShape] at h
  | d + 1, 0, _, _, h, hD => by omega
  | d + 1, D + 1, t, n, h, hD => by
    simp only [eqShape] at h
    split at h
    · rename_i k hk
      simp only [Option.some.injEq] at h
      subst h
      refine ⟨false, by simp [aggB, hk], fun _ => rfl, fun xs ys w hx hy => ?_⟩
      obtain ⟨a, rfl⟩ := List.length_eq_one_iff.1 hx
      obtain ⟨b, rfl⟩ := List.length_eq_one_iff.1 hy
      simp only [vI, Bool.false_eq_true, if_false, List.headD_cons]
      rw [run_equalIn_int w D t _ _ _ _ hk]
      simp [BEq.beq]
      cases h : decide (a = b) <;> simp_all [List.beq]
    · rename_i fs hfs
      split at h
      · cases h
      · rename_i hp
        refine ⟨true, by simp [aggB, hfs], fun e => (by cases e), fun xs ys w hx hy => ?_⟩
        simp only [vI, if_true]
        have hfo : P.fieldsOf t = fs := by simp [Program.fieldsOf, hfs]
        rw [run_equalIn_struct w D t _ _ (by rw [hfo]; exact hfs) (by simpa using hp), hfo]
        have key : ∀ (fl : List Field) (off : Nat) (w : World), eqShapes P (eqShape P d) fl off = some n → off ≤ n → (Op.eqFields D (ints xs).toArray (ints ys).toArray fl).run P w = .ok (xs.drop off == ys.drop off) w := by
          intro fl
          induction fl with
          | nil =>
            intro off w h _
            simp only [eqShapes, Option.some.injEq] at h
            subst h
            rw [List.drop_of_length_le (by omega), List.drop_of_length_le (by omega)]; simp [Op.eqFields]
          | cons f fl ih =>
            intro off w h hoff
            simp only [eqShapes] at h
            split at h
            · rename_i hf
              split at h
              · rename_i a m ha hm
                split at h
                · rename_i ham
                  subst ham
                  have hle : off + a ≤ n := by
                    clear ih
                    have mono : ∀ (gl : List Field) (o : Nat), eqShapes P (eqShape P d) gl o = some n → o ≤ n := by
                      intro gl
                      induction gl with
                      | nil => intro o h; simp [eqShapes] at h; omega
                      | cons f gl ih =>
                        intro o h
                        simp only [eqShapes] at h
                        split at h
                        · split at h
                          · split at h
                            · have := ih _ h; omega
                            · cases h
                          · cases h
                        · cases h
                    exact mono fl _ h
                  obtain ⟨b, hb, hb1, heq⟩ := run_equalInts d D f.type a ha (by omega)
                  unfold Op.eqFields
                  rw [if_pos hf.1, Sem.run_bind, hf.2, run_part hb hm hb1 (by omega)]
                  simp only [Result.andThen_ok]
                  rw [Sem.run_bind, run_part hb hm hb1 (by omega)]
                  simp only [Result.andThen_ok]
                  rw [Sem.run_bind, heq _ _ w (by simp; omega) (by simp; omega)]
                  simp only [Result.andThen_ok]
                  have e1 : xs.drop off = (xs.drop off).take a ++ xs.drop (off + a) := by
                    rw [← List.drop_drop, List.take_append_drop]
                  have e2 : ys.drop off = (ys.drop off).take a ++ ys.drop (off + a) := by
                    rw [← List.drop_drop, List.take_append_drop]
                  have hl : ((xs.drop off).take a).length = ((ys.drop off).take a).length := by simp; omega
                  by_cases he : (xs.drop off).take a = (ys.drop off).take a
                  · rw [he]
                    simp only [beq_self_eq_true, Bool.not_true, Bool.false_eq_true, if_false]
                    rw [ih (off + a) w h hle]
                    congr 1
                    rw [e1, e2, he]
                    rw [Bool.eq_iff_iff]
                    simp
                  · have : ((xs.drop off).take a == (ys.drop off).take a) = false := by simpa using he
                    rw [this]
                    simp only [Bool.not_false, if_true, Sem.run_pure]
                    congr 1
                    symm
                    rw [beq_eq_false_iff_ne]
                    intro e
                    rw [e1, e2] at e
                    exact he (List.append_inj e hl).1
                · cases h
              · cases h
            · cases h
        have := key fs.toList 0 w h (Nat.zero_le _)
        simpa using this
    · cases h
/-- A type of struct, of whole numbers alone; how many. -/
def eqB (P : Program) (t : TypeId) : Option Nat := match P.underlying t with
  | some (.struct _) => if P.eqGuardType P.depth t then none else eqShape P 20 t
  | _ => none
section
variable {P : Program} {t : TypeId} {n : Nat} {x y : Operand} {xs ys : List Int}
theorem eqB_inv (h : eqB P t = some n) (hx : xs.length = n) (hy : ys.length = n) (w : World) : P.eqGuardType P.depth t = false ∧ (Op.equalIn 10000 t (.agg (ints xs).toArray) (.agg (ints ys).toArray)).run P w = .ok (decide (xs = ys)) w := by
  unfold eqB at h
  split at h
  · rename_i fs hfs
    split at h
    · cases h
    · rename_i hg
      obtain ⟨b, hb, _, heq⟩ := run_equalInts 20 10000 t n h (by omega)
      have : b = true := by simp [aggB, hfs] at hb; exact hb
      subst this
      have h1 := heq xs ys w hx hy
      simp only [vI, if_true] at h1
      exact ⟨by simpa using hg, by rw [h1]; congr 1; exact Bool.eq_iff_iff.2 (by simp)⟩
  · cases h
theorem b_eqlS (h : eqB P t = some n) (hx : xs.length = n) (hy : ys.length = n) : ∀ w, (do eqGuard .eql t x y (.agg (ints xs).toArray) (.agg (ints ys).toArray); binOp .eql t (.agg (ints xs).toArray) (.agg (ints ys).toArray) : Sem Value).run P w = .ok (.bool (decide (xs = ys))) w := fun w => by
  obtain ⟨h1, h2⟩ := eqB_inv h hx hy w
  rw [Sem.run_bind, run_eqGuard_agg _ _ _ _ _ _ _ h1]
  simp only [Result.andThen_ok]
  rw [run_eql_struct, h2]; rfl
theorem b_neqS (h : eqB P t = some n) (hx : xs.length = n) (hy : ys.length = n) : ∀ w, (do eqGuard .neq t x y (.agg (ints xs).toArray) (.agg (ints ys).toArray); binOp .neq t (.agg (ints xs).toArray) (.agg (ints ys).toArray) : Sem Value).run P w = .ok (.bool (!decide (xs = ys))) w := fun w => by
  obtain ⟨h1, h2⟩ := eqB_inv h hx hy w
  rw [Sem.run_bind, run_eqGuard_agg _ _ _ _ _ _ _ h1]
  simp only [Result.andThen_ok]
  rw [run_neq_struct, h2]; rfl
/-! ### Against nil -/
theorem bin_eql {a b : Value} {r : Bool} {w : World} (hne : binOp .eql t a b = (do pure (.bool (← Op.equal t a b)))) (h : (Op.equalIn (9999 + 1) t a b).run P w = .ok r w) : (binOp .eql t a b).run P w = .ok (.bool r) w := by
  rw [hne, Sem.run_bind]
  have : Op.equal t a b = Op.equalIn (9999 + 1) t a b := rfl
  rw [this, h]; rfl
theorem bin_neq {a b : Value} {r : Bool} {w : World} (hne : binOp .neq t a b = (do pure (.bool (!(← Op.equal t a b))))) (h : (Op.equalIn (9999 + 1) t a b).run P w = .ok r w) : (binOp .neq t a b).run P w = .ok (.bool (!r)) w := by
  rw [hne, Sem.run_bind]
  have : Op.equal t a b = Op.equalIn (9999 + 1) t a b := rfl
  rw [this, h]; rfl
theorem run_pureU {b : Sem Value} {w : World} : ((pure () : Sem Unit) >>= fun _ => b).run P w = b.run P w := by rw [Sem.run_bind, Sem.run_pure]; rfl
section
variable {d : Nat} {w : World}
theorem in_iface0 {ms} {k : TypeId} {v : Value} (h : P.underlying t = some (.interface ms)) : (Op.equalIn (d + 1) t (.iface k v) .nilIface).run P w = .ok false w := by simp [Op.equalIn, run_underlying h]
theorem in_nil0 {ms} (h : P.underlying t = some (.interface ms)) : (Op.equalIn (d + 1) t .nilIface .nilIface).run P w = .ok true w := by simp [Op.equalIn, run_underlying h]
theorem in_slice0 {e} {A : Option Addr} {n' cap : Nat} (h : P.underlying t = some (.slice e)) : (Op.equalIn (d + 1) t (.slice A n' cap) (.slice none 0 0)).run P w = .ok A.isNone w := by cases A <;> simp [Op.equalIn, run_underlying h]
theorem in_bool {a b : Bool} (h : P.underlying t = some .bool) : (Op.equalIn (d + 1) t (.bool a) (.bool b)).run P w = .ok (decide (a = b)) w := by simp [Op.equalIn, run_underlying h]; cases a <;> cases b <;> rfl
end
theorem b_ifaceNil {k : TypeId} {v : Value} (h : (match P.underlying t with | some (.interface _) => true | _ => false) = true) : ∀ w, (do eqGuard .eql t x (.const .nilIface) (.iface k v) .nilIface; binOp .eql t (.iface k v) .nilIface : Sem Value).run P w = .ok (.bool false) w := fun w => by
  split at h
  · rename_i ms hm
    have : (eqGuard .eql t x (.const .nilIface) (.iface k v) .nilIface) = pure () := rfl
    rw [this, run_pureU]
    exact bin_eql (a := .iface k v) (b := .nilIface) rfl (in_iface0 hm)
  · cases h
theorem b_nilNil (h : (match P.underlying t with | some (.interface _) => true | _ => false) = true) : ∀ w, (do eqGuard .eql t x (.const .nilIface) .nilIface .nilIface; binOp .eql t .nilIface .nilIface : Sem Value).run P w = .ok (.bool true) w := fun w => by
  split at h
  · rename_i ms hm
    have : (eqGuard .eql t x (.const .nilIface) .nilIface .nilIface) = pure () := by cases x <;> rfl
    rw [this, run_pureU]
    exact bin_eql (a := .nilIface) (b := .nilIface) rfl (in_nil0 hm)
  · cases h
theorem b_sliceNil {A : Option Addr} {n' cap : Nat} (h : (match P.underlying t with | some (.slice _) => true | _ => false) = true) : ∀ w, (do eqGuard .eql t x y (.slice A n' cap) (.slice none 0 0); binOp .eql t (.slice A n' cap) (.slice none 0 0) : Sem Value).run P w = .ok (.bool A.isNone) w := fun w => by
  split at h
  · rename_i ms hm
    have : (eqGuard .eql t x y (.slice A n' cap) (.slice none 0 0)) = pure () := rfl
    rw [this, run_pureU]
    exact bin_eql (a := .slice A n' cap) (b := .slice none 0 0) rfl (in_slice0 hm)
  · cases h
theorem b_rowNil {o : Option Nat} {n' cap : Nat} (h : (match P.underlying t with | some (.slice _) => true | _ => false) = true) : ∀ w, (do eqGuard .eql t x y (rowV o n' cap) (.slice none 0 0); binOp .eql t (rowV o n' cap) (.slice none 0 0) : Sem Value).run P w = .ok (.bool o.isNone) w := fun w => by
  rw [rowV, b_sliceNil h]; cases o <;> rfl
theorem str_eq (a b : ByteArray) : (a.toList == b.toList) = decide (a = b) := by
  rw [ByteArray.toList_eq, ByteArray.toList_eq, Bool.eq_iff_iff]
  obtain ⟨⟨x⟩⟩ := a
  obtain ⟨⟨y⟩⟩ := b
  simp
theorem b_eqlStr {a b : ByteArray} : ∀ w, (do eqGuard .eql t x y (.string a) (.string b); binOp .eql t (.string a) (.string b) : Sem Value).run P w = .ok (.bool (decide (a = b))) w := fun w => by
  have : (eqGuard .eql t x y (.string a) (.string b)) = pure () := rfl
  rw [this]
  simp [binOp, Op.stringOp, str_eq]
theorem b_neqStr {a b : ByteArray} : ∀ w, (do eqGuard .neq t x y (.string a) (.string b); binOp .neq t (.string a) (.string b) : Sem Value).run P w = .ok (.bool (!decide (a = b))) w := fun w => by
  have : (eqGuard .neq t x y (.string a) (.string b)) = pure () := rfl
  rw [this]
  simp [binOp, Op.stringOp, str_eq]
theorem b_eqlB {a b : Bool} (h : (match P.underlying t with | some .bool => true | _ => false) = true) : ∀ w, (do eqGuard .eql t x y (.bool a) (.bool b); binOp .eql t (.bool a) (.bool b) : Sem Value).run P w = .ok (.bool (decide (a = b))) w := fun w => by
  split at h
  · rename_i hm
    rw [eqGuard_at_bool, run_pureU]
    exact bin_eql (a := .bool a) (b := .bool b) rfl (in_bool hm)
  · cases h
theorem b_neqB {a b : Bool} (h : (match P.underlying t with | some .bool => true | _ => false) = true) : ∀ w, (do eqGuard .neq t x y (.bool a) (.bool b); binOp .neq t (.bool a) (.bool b) : Sem Value).run P w = .ok (.bool (!decide (a = b))) w := fun w => by
  split at h
  · rename_i hm
    rw [eqGuard_at_bool, run_pureU]
    exact bin_neq (a := .bool a) (b := .bool b) rfl (in_bool hm)
  · cases h
end
end Go.Sl

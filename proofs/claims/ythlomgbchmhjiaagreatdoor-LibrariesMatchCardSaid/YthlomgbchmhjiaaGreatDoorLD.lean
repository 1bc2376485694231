/- Whether parts of a grade are all zero: '==' of structs of rows of singles. No condition. (with: LbH, LbI) -/
import Derived.Test.YthlomgbchmhjiaaGreatDoorLC
import Derived.ChangeKeysEq
import Derived.Laws.StructEq
set_option linter.unusedSimpArgs false
set_option linter.unusedVariables false
namespace Go.Proofs.YthlomgbchmhjiaaGreatDoor
open Go Go.RowKit
def fz (v : Nat) : Bool := FloatKind.f32.format.order v 0 == some .eq
theorem run_equalIn_f32 {P : Program} (w : World) (d : Nat) (t : TypeId) (k : FloatKind) (a b : Nat) (h : P.underlying t = some (.float k)) : (Op.equalIn (d + 1) t (.float .f32 a) (.float .f32 b)).run P w = .ok (FloatKind.f32.format.order a b == some .eq) w := by
  simp [Op.equalIn, run_underlying h, Op.floatEq]
theorem underF : Tryz.prog.underlying 27 = some (.float .f32) := by kernel_rfl
theorem cellsF : Tryz.prog.cellsOf 27 = 1 := by kernel_rfl
theorem cellsI : Tryz.prog.cellsOf 3 = 1 := by kernel_rfl
theorem part_f (xs : List Nat) (i v : Nat) (h : xs[i]? = some v) (w : World) : (part 27 (xs.map (Value.float .f32)).toArray i).run Tryz.prog w = .ok (.float .f32 v) w := by
  have h1 : ((xs.map (Value.float .f32)).toArray)[i]? = some (.float .f32 v) := by simp [h]
  simp [part, isAgg, run_underlying underF, h1]
theorem part_i (xs : List Int) (i : Nat) (v : Int) (h : xs[i]? = some v) (w : World) : (part 3 (xs.map (Value.int .i64)).toArray i).run Tryz.prog w = .ok (.int .i64 v) w := by
  have h1 : ((xs.map (Value.int .i64)).toArray)[i]? = some (.int .i64 v) := by simp [h]
  simp [part, isAgg, run_underlying underI, h1]
theorem items_f (d : Nat) (xs ys : List Nat) (w : World) : ∀ is : List Nat, (∀ i ∈ is, i < xs.length ∧ i < ys.length) → (Op.eqItems (d + 1) 27 1 (xs.map (Value.float .f32)).toArray (ys.map (Value.float .f32)).toArray is).run Tryz.prog w = .ok (is.all fun i => FloatKind.f32.format.order (xs.getD i 0) (ys.getD i 0) == some .eq) w
  | [], _ => by simp [Op.eqItems]
  | i :: is, h => by
    have ih := items_f d xs ys w is (fun j hj => h j (by simp [hj]))
    obtain ⟨h1, h2⟩ := h i (by simp)
    have e1 := part_f xs i (xs.getD i 0) (by rw [List.getD_eq_getElem?_getD, List.getElem?_eq_getElem h1]; rfl) w
    have e2 := part_f ys i (ys.getD i 0) (by rw [List.getD_eq_getElem?_getD, List.getElem?_eq_getElem h2]; rfl) w
    have e3 := run_equalIn_f32 w d 27 .f32 (xs.getD i 0) (ys.getD i 0) underF
    simp only [Op.eqItems, Sem.run_bind, Nat.mul_one, e1, e2, e3, Result.andThen_ok]
    cases hb : (FloatKind.f32.format.order (xs.getD i 0) (ys.getD i 0) == some .eq)
    · simp only [Bool.not_false, if_true, Sem.run_pure, List.all_cons, hb, Bool.false_and]
    · simp only [Bool.not_true, Bool.false_eq_true, if_false, ih, List.all_cons, hb, Bool.true_and]
theorem items_i (d : Nat) (xs ys : List Int) (w : World) : ∀ is : List Nat, (∀ i ∈ is, i < xs.length ∧ i < ys.length) → (Op.eqItems (d + 1) 3 1 (xs.map (Value.int .i64)).toArray (ys.map (Value.int .i64)).toArray is).run Tryz.prog w = .ok (is.all fun i => xs.getD i 0 == ys.getD i 0) w
  | [], _ => by simp [Op.eqItems]
  | i :: is, h => by
    have ih := items_i d xs ys w is (fun j hj => h j (by simp [hj]))
    obtain ⟨h1, h2⟩ := h i (by simp)
    have e1 := part_i xs i (xs.getD i 0) (by rw [List.getD_eq_getElem?_getD, List.getElem?_eq_getElem h1]; rfl) w
    have e2 := part_i ys i (ys.getD i 0) (by rw [List.getD_eq_getElem?_getD, List.getElem?_eq_getElem h2]; rfl) w
    have e3 := run_equalIn_int w d 3 .i64 .i64 (xs.getD i 0) (ys.getD i 0) underI
    simp only [Op.eqItems, Sem.run_bind, Nat.mul_one, e1, e2, e3, Result.andThen_ok]
    cases hb : (xs.getD i 0 == ys.getD i 0)
    · simp only [Bool.not_false, if_true, Sem.run_pure, List.all_cons, hb, Bool.false_and]
    · simp only [Bool.not_true, Bool.false_eq_true, if_false, ih, List.all_cons, hb, Bool.true_and]
/-- All are zero. -/
def zf (l : List Nat) : Bool := (List.range l.length).all fun i => FloatKind.f32.format.order (l.getD i 0) 0 == some .eq
def zi (l : List Int) : Bool := (List.range l.length).all fun i => l.getD i 0 == 0
theorem arr_f {t : TypeId} (n d : Nat) (l : List Nat) (hl : l.length = n) (ht : Tryz.prog.underlying t = some (.array n 27)) (w : World) : (Op.equalIn (d + 1 + 1) t (.agg (l.map (Value.float .f32)).toArray) (.agg ((List.replicate n 0).map (Value.float .f32)).toArray)).run Tryz.prog w = .ok (zf l) w := by
  obtain ⟨i, hi, -, -, -⟩ := info_parts infoF32
  rw [run_equalIn_array w (d + 1) _ _ ht hi, cellsF, items_f d _ _ w _ (fun j hj => by rw [List.mem_range] at hj; rw [List.length_replicate]; omega)]
  unfold zf
  rw [hl]
  have e : ∀ j, (List.replicate n (0 : Nat)).getD j 0 = 0 := fun j => by rw [List.getD_eq_getElem?_getD, List.getElem?_replicate]; split <;> rfl
  simp only [e]
theorem infoI : (Tryz.prog.info? 3).map (fun i => (i.zero, i.size, i.bytes)) = some (some (.int .i64 0), 1, 8) := by kernel_rfl
theorem arr_i {t : TypeId} (n d : Nat) (l : List Int) (hl : l.length = n) (ht : Tryz.prog.underlying t = some (.array n 3)) (w : World) : (Op.equalIn (d + 1 + 1) t (.agg (l.map (Value.int .i64)).toArray) (.agg ((List.replicate n 0).map (Value.int .i64)).toArray)).run Tryz.prog w = .ok (zi l) w := by
  obtain ⟨i, hi, -, -, -⟩ := info_parts infoI
  rw [run_equalIn_array w (d + 1) _ _ ht hi, cellsI, items_i d _ _ w _ (fun j hj => by rw [List.mem_range] at hj; rw [List.length_replicate]; omega)]
  unfold zi
  rw [hl]
  have e : ∀ j, (List.replicate n (0 : Int)).getD j 0 = 0 := fun j => by rw [List.getD_eq_getElem?_getD, List.getElem?_replicate]; split <;> rfl
  simp only [e]
theorem eq_points (a b c : Int) (w : World) : (Op.equalIn 10000 61 (.agg #[.int .i64 a, .int .i64 b, .int .i64 c]) (.agg #[.int .i64 0, .int .i64 0, .int .i64 0])).run Tryz.prog w = .ok (zi [a, b, c]) w :=
  arr_i 3 9998 [a, b, c] rfl Tryz.underlying61 w
set_option maxHeartbeats 1600000 in
theorem eq_wheels (v0 v1 v2 v3 v4 v5 v6 v7 v8 : Nat) (w : World) : (Op.equalIn 10000 52 (.agg #[.float .f32 v0, .float .f32 v1, .float .f32 v2, .float .f32 v3, .float .f32 v4, .float .f32 v5, .float .f32 v6, .float .f32 v7, .float .f32 v8]) (.agg #[.float .f32 0, .float .f32 0, .float .f32 0, .float .f32 0, .float .f32 0, .float .f32 0, .float .f32 0, .float .f32 0, .float .f32 0])).run Tryz.prog w = .ok (zf [v0, v1, v2] && (zf [v3, v4, v5] && zf [v6, v7, v8])) w := by
  have hS : Tryz.prog.underlying 52 = some (.struct (Tryz.prog.fieldsOf 52)) := by kernel_rfl
  have hp : Tryz.prog.stoodInHeld 52 = false := by kernel_rfl
  have k0 : ∀ v0 v1 v2 v3 v4 v5 v6 v7 v8 w, (part 50 #[.float .f32 v0, .float .f32 v1, .float .f32 v2, .float .f32 v3, .float .f32 v4, .float .f32 v5, .float .f32 v6, .float .f32 v7, .float .f32 v8] 0).run Tryz.prog w = .ok (.agg #[.float .f32 v0, .float .f32 v1, .float .f32 v2]) w := fun _ _ _ _ _ _ _ _ _ _ => by kernel_rfl
  have k1 : ∀ v0 v1 v2 v3 v4 v5 v6 v7 v8 w, (part 50 #[.float .f32 v0, .float .f32 v1, .float .f32 v2, .float .f32 v3, .float .f32 v4, .float .f32 v5, .float .f32 v6, .float .f32 v7, .float .f32 v8] 3).run Tryz.prog w = .ok (.agg #[.float .f32 v3, .float .f32 v4, .float .f32 v5]) w := fun _ _ _ _ _ _ _ _ _ _ => by kernel_rfl
  have k2 : ∀ v0 v1 v2 v3 v4 v5 v6 v7 v8 w, (part 50 #[.float .f32 v0, .float .f32 v1, .float .f32 v2, .float .f32 v3, .float .f32 v4, .float .f32 v5, .float .f32 v6, .float .f32 v7, .float .f32 v8] 6).run Tryz.prog w = .ok (.agg #[.float .f32 v6, .float .f32 v7, .float .f32 v8]) w := fun _ _ _ _ _ _ _ _ _ _ => by kernel_rfl
  have a3 : ∀ a b c w, (Op.equalIn 9999 50 (.agg #[.float .f32 a, .float .f32 b, .float .f32 c]) (.agg #[.float .f32 0, .float .f32 0, .float .f32 0])).run Tryz.prog w = .ok (zf [a, b, c]) w := fun a b c w => arr_f 3 9997 [a, b, c] rfl Tryz.underlying50 w
  rw [show (10000 : Nat) = 9999 + 1 from rfl, run_equalIn_agg w 9999 52 _ _ hS hp]
  simp only [Program.fieldsOf, Tryz.underlying52]
  simp [Op.eqFields, Sem.run_bind, k0, k1, k2, a3, Result.andThen_ok]
  cases zf [v0, v1, v2] <;> cases zf [v3, v4, v5] <;> cases zf [v6, v7, v8] <;> simp
set_option maxHeartbeats 1600000 in
theorem eq_list (v0 v1 v2 v3 v4 v5 v6 v7 v8 v9 : Nat) (w : World) : (Op.equalIn 10000 54 (.agg #[.float .f32 v0, .float .f32 v1, .float .f32 v2, .float .f32 v3, .float .f32 v4, .float .f32 v5, .float .f32 v6, .float .f32 v7, .float .f32 v8, .float .f32 v9]) (.agg #[.float .f32 0, .float .f32 0, .float .f32 0, .float .f32 0, .float .f32 0, .float .f32 0, .float .f32 0, .float .f32 0, .float .f32 0, .float .f32 0])).run Tryz.prog w = .ok (zf [v0, v1, v2] && (zf [v3, v4, v5] && (zf [v6, v7, v8] && fz v9))) w := by
  have hS : Tryz.prog.underlying 54 = some (.struct (Tryz.prog.fieldsOf 54)) := by kernel_rfl
  have hp : Tryz.prog.stoodInHeld 54 = false := by kernel_rfl
  have k0 : ∀ v0 v1 v2 v3 v4 v5 v6 v7 v8 v9 w, (part 50 #[.float .f32 v0, .float .f32 v1, .float .f32 v2, .float .f32 v3, .float .f32 v4, .float .f32 v5, .float .f32 v6, .float .f32 v7, .float .f32 v8, .float .f32 v9] 0).run Tryz.prog w = .ok (.agg #[.float .f32 v0, .float .f32 v1, .float .f32 v2]) w := fun _ _ _ _ _ _ _ _ _ _ _ => by kernel_rfl
  have k1 : ∀ v0 v1 v2 v3 v4 v5 v6 v7 v8 v9 w, (part 50 #[.float .f32 v0, .float .f32 v1, .float .f32 v2, .float .f32 v3, .float .f32 v4, .float .f32 v5, .float .f32 v6, .float .f32 v7, .float .f32 v8, .float .f32 v9] 3).run Tryz.prog w = .ok (.agg #[.float .f32 v3, .float .f32 v4, .float .f32 v5]) w := fun _ _ _ _ _ _ _ _ _ _ _ => by kernel_rfl
  have k2 : ∀ v0 v1 v2 v3 v4 v5 v6 v7 v8 v9 w, (part 50 #[.float .f32 v0, .float .f32 v1, .float .f32 v2, .float .f32 v3, .float .f32 v4, .float .f32 v5, .float .f32 v6, .float .f32 v7, .float .f32 v8, .float .f32 v9] 6).run Tryz.prog w = .ok (.agg #[.float .f32 v6, .float .f32 v7, .float .f32 v8]) w := fun _ _ _ _ _ _ _ _ _ _ _ => by kernel_rfl
  have k3 : ∀ v0 v1 v2 v3 v4 v5 v6 v7 v8 v9 w, (part 27 #[.float .f32 v0, .float .f32 v1, .float .f32 v2, .float .f32 v3, .float .f32 v4, .float .f32 v5, .float .f32 v6, .float .f32 v7, .float .f32 v8, .float .f32 v9] 9).run Tryz.prog w = .ok (.float .f32 v9) w := fun _ _ _ _ _ _ _ _ _ _ _ => by kernel_rfl
  have a3 : ∀ a b c w, (Op.equalIn 9999 50 (.agg #[.float .f32 a, .float .f32 b, .float .f32 c]) (.agg #[.float .f32 0, .float .f32 0, .float .f32 0])).run Tryz.prog w = .ok (zf [a, b, c]) w := fun a b c w => arr_f 3 9997 [a, b, c] rfl Tryz.underlying50 w
  have a1 : ∀ a w, (Op.equalIn 9999 27 (.float .f32 a) (.float .f32 0)).run Tryz.prog w = .ok (fz a) w := fun a w => run_equalIn_f32 w 9998 27 .f32 a 0 underF
  rw [show (10000 : Nat) = 9999 + 1 from rfl, run_equalIn_agg w 9999 54 _ _ hS hp]
  simp only [Program.fieldsOf, Tryz.underlying54]
  simp [Op.eqFields, Sem.run_bind, k0, k1, k2, k3, a3, a1, Result.andThen_ok]
  cases zf [v0, v1, v2] <;> cases zf [v3, v4, v5] <;> cases zf [v6, v7, v8] <;> cases fz v9 <;> simp
set_option maxHeartbeats 1600000 in
theorem eq_mixer (v0 v1 v2 v3 v4 v5 v6 v7 v8 v9 v10 v11 : Nat) (w : World) : (Op.equalIn 10000 60 (.agg #[.float .f32 v0, .float .f32 v1, .float .f32 v2, .float .f32 v3, .float .f32 v4, .float .f32 v5, .float .f32 v6, .float .f32 v7, .float .f32 v8, .float .f32 v9, .float .f32 v10, .float .f32 v11]) (.agg #[.float .f32 0, .float .f32 0, .float .f32 0, .float .f32 0, .float .f32 0, .float .f32 0, .float .f32 0, .float .f32 0, .float .f32 0, .float .f32 0, .float .f32 0, .float .f32 0])).run Tryz.prog w = .ok (zf [v0, v1, v2, v3, v4, v5, v6, v7, v8, v9, v10, v11]) w := by
  have hS : Tryz.prog.underlying 60 = some (.struct (Tryz.prog.fieldsOf 60)) := by kernel_rfl
  have hp : Tryz.prog.stoodInHeld 60 = false := by kernel_rfl
  have k0 : ∀ v0 v1 v2 v3 v4 v5 v6 v7 v8 v9 v10 v11 w, (part 58 #[.float .f32 v0, .float .f32 v1, .float .f32 v2, .float .f32 v3, .float .f32 v4, .float .f32 v5, .float .f32 v6, .float .f32 v7, .float .f32 v8, .float .f32 v9, .float .f32 v10, .float .f32 v11] 0).run Tryz.prog w = .ok (.agg #[.float .f32 v0, .float .f32 v1, .float .f32 v2, .float .f32 v3, .float .f32 v4, .float .f32 v5, .float .f32 v6, .float .f32 v7, .float .f32 v8, .float .f32 v9, .float .f32 v10, .float .f32 v11]) w := fun _ _ _ _ _ _ _ _ _ _ _ _ _ => by kernel_rfl
  have a12 : (Op.equalIn 9999 58 (.agg #[.float .f32 v0, .float .f32 v1, .float .f32 v2, .float .f32 v3, .float .f32 v4, .float .f32 v5, .float .f32 v6, .float .f32 v7, .float .f32 v8, .float .f32 v9, .float .f32 v10, .float .f32 v11]) (.agg #[.float .f32 0, .float .f32 0, .float .f32 0, .float .f32 0, .float .f32 0, .float .f32 0, .float .f32 0, .float .f32 0, .float .f32 0, .float .f32 0, .float .f32 0, .float .f32 0])).run Tryz.prog w = .ok (zf [v0, v1, v2, v3, v4, v5, v6, v7, v8, v9, v10, v11]) w := arr_f 12 9997 [v0, v1, v2, v3, v4, v5, v6, v7, v8, v9, v10, v11] rfl Tryz.underlying58 w
  rw [show (10000 : Nat) = 9999 + 1 from rfl, run_equalIn_agg w 9999 60 _ _ hS hp]
  simp only [Program.fieldsOf, Tryz.underlying60]
  simp [Op.eqFields, Sem.run_bind, k0, a12, Result.andThen_ok]
  cases zf [v0, v1, v2, v3, v4, v5, v6, v7, v8, v9, v10, v11] <;> simp
end Go.Proofs.YthlomgbchmhjiaaGreatDoor

set_option linter.unusedSimpArgs false
set_option linter.unusedVariables false
namespace Go.Proofs.YthlomgbchmhjiaaGreatDoor
open Go Go.RowKit
theorem Blk.sub {w : World} {b : Nat} {vs : List Value} (k : Blk w b vs) (o n : Nat) {cs : List Value} (h : cs = (vs.drop o).take n) : w.rangeAt b o cs := fun j v hj => by
  subst h
  rw [List.getElem?_take] at hj
  split at hj
  · rw [List.getElem?_drop] at hj; exact k.c _ _ hj
  · cases hj
section
variable {ops : Array Oper} {rest : List Oper} {o : Oper} {a : Act} {w : World} {Q : Exit → Act → World → Prop}
/-- THE WALK's LAW: a value of many cells is read whole, also where the operation is guarded. -/
theorem wpList_ldW (cs : List Value) {T : TypeId} {d : TypeDesc} {b off : Nat} {x : Operand} (hu : Tryz.prog.underlying T = some d) (hd : d.isRow = true) (hi : (Tryz.prog.info? T).map (·.size) = some cs.length) (k : w.rangeAt b off cs) (ho : o.op = .load T x) (hx : a.eval x = .pointer (some ⟨b, off, none⟩)) (hw : Region.wanted o (yielded ops a.tmps) = true)
    (h : wpList Tryz.prog ops Q rest (a.put o.dst (.agg cs.toArray)) w) : wpList Tryz.prog ops Q (o :: rest) a w := by
  rw [wpList, if_pos hw]
  exact .inl (wp_load_mid T x ho b off hx cs d k hu hd hi h)
end
theorem infoW : (Tryz.prog.info? 52).map (·.size) = some 9 := by kernel_rfl
theorem infoL : (Tryz.prog.info? 54).map (·.size) = some 10 := by kernel_rfl
theorem infoM : (Tryz.prog.info? 60).map (·.size) = some 12 := by kernel_rfl
theorem infoP : (Tryz.prog.info? 61).map (·.size) = some 3 := by kernel_rfl
theorem infoC4 : (Tryz.prog.info? 57).map (·.size) = some 12 := by kernel_rfl
def crvL (g : GradeD) : List Value := curveL (g.c 0) ++ curveL (g.c 1) ++ curveL (g.c 2) ++ curveL (g.c 3)
def whL (g : GradeD) : List Value := [flV g 0, flV g 1, flV g 2, flV g 3, flV g 4, flV g 5, flV g 6, flV g 7, flV g 8]
def liL (g : GradeD) : List Value := [flV g 9, flV g 10, flV g 11, flV g 12, flV g 13, flV g 14, flV g 15, flV g 16, flV g 17, flV g 18]
def mxL (g : GradeD) : List Value := [flV g 19, flV g 20, flV g 21, flV g 22, flV g 23, flV g 24, flV g 25, flV g 26, flV g 27, flV g 28, flV g 29, flV g 30]
def ptL (g : GradeD) : List Value := [.int .i64 (g.p 0), .int .i64 (g.p 1), .int .i64 (g.p 2)]
def wzB (g : GradeD) : Bool := zf [g.f 0, g.f 1, g.f 2] && (zf [g.f 3, g.f 4, g.f 5] && zf [g.f 6, g.f 7, g.f 8])
def lzB (g : GradeD) : Bool := zf [g.f 9, g.f 10, g.f 11] && (zf [g.f 12, g.f 13, g.f 14] && (zf [g.f 15, g.f 16, g.f 17] && fz (g.f 18)))
def mzB (g : GradeD) : Bool := zf [g.f 19, g.f 20, g.f 21, g.f 22, g.f 23, g.f 24, g.f 25, g.f 26, g.f 27, g.f 28, g.f 29, g.f 30]
def pzB (g : GradeD) : Bool := zi [g.p 0, g.p 1, g.p 2]
def crB (k : Int) (c : CurveD) : Bool := ((k != 3) || !(hpB c)) && ((c.k != 0) || hpB c)
def crN (g : GradeD) (i : Nat) : Int := if crB g.k (g.c i) then 1 else 0
def spT (g : GradeD) : Bool := (g.k == 1 || wzB g) && ((g.k == 2 || lzB g) && ((g.k == 4 || mzB g) && ((g.k == 5 || (fz (g.f 31) && fz (g.f 32))) && (g.k == 6 || pzB g))))
def spB (g : GradeD) : Bool := if fstN (crN g) 4 = 0 then spT g else false
set_option maxRecDepth 100000 in
theorem ix_c (g : GradeD) : ∀ i : Nat, i < 4 → ∀ w, (Instr.index 57 (.agg (crvL g).toArray) (.int .i64 (i : Int))).run Tryz.prog w = .ok (curveV (g.c i)) w := fun i hi => by
  match i, hi with
  | 0, _ => exact fun _ => by kernel_rfl
  | 1, _ => exact fun _ => by kernel_rfl
  | 2, _ => exact fun _ => by kernel_rfl
  | 3, _ => exact fun _ => by kernel_rfl
end Go.Proofs.YthlomgbchmhjiaaGreatDoor

set_option linter.unusedVariables false
namespace Go.Proofs.YthlomgbchmhjiaaGreatDoor
open Go Go.RowKit
def cvK (c : CurveD) : Int := if hpB c then cvE c else 0
def whK (g : GradeD) : Int := whE [g.f 0, g.f 1, g.f 2, g.f 3, g.f 4, g.f 5, g.f 6, g.f 7, g.f 8]
def liK (g : GradeD) : Int := liE [g.f 9, g.f 10, g.f 11, g.f 12, g.f 13, g.f 14, g.f 15, g.f 16, g.f 17, g.f 18]
def mxK (g : GradeD) : Int := mxE [g.f 19, g.f 20, g.f 21, g.f 22, g.f 23, g.f 24, g.f 25, g.f 26, g.f 27, g.f 28, g.f 29, g.f 30]
def coK (g : GradeD) : Int := if allNum [g.f 31, g.f 32] then 0 else 2
def ptK (g : GradeD) : Int := pt3 (g.p 0) (g.p 1) (g.p 2)
def grK (g : GradeD) : Int := if g.k = 1 then whK g else if g.k = 2 then liK g else if g.k = 3 then fstN (fun i => cvK (g.c i)) 4 else if g.k = 4 then mxK g else if g.k = 5 then coK g else if g.k = 6 then ptK g else 1
def grE (g : GradeD) : Int := if grK g = 0 then (if spB g then 0 else 12) else grK g
theorem infoGr : (Tryz.prog.info? 63).map (·.size) = some 49 := by kernel_rfl
end Go.Proofs.YthlomgbchmhjiaaGreatDoor

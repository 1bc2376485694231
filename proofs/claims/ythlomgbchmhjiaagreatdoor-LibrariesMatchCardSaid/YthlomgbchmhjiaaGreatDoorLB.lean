/- slices.Concat and slices.Grow over rows of singles. Conditions: at least one single, at most 1000. (with: LbD) -/
import Derived.Test.YthlomgbchmhjiaaGreatDoorLbB
import Derived.Lib.AppendZeros
import Derived.Test.YthlomgbchmhjiaaGreatDoorQA
namespace Go.Proofs.YthlomgbchmhjiaaGreatDoor
open Go Go.RowKit
theorem underI : Tryz.prog.underlying 3 = some (.int .i64) := by kernel_rfl
set_option maxRecDepth 100000 in
set_option maxHeartbeats 1600000 in
theorem Grow_nil (n : Nat) (hn : 0 < n) (hb : n ≤ 1000) (w : World) : Calls Tryz.prog 77 #[.slice none 0 0, .int .i64 n] w fun e w' => ∃ G, n ≤ G ∧ G ≤ maxLen ∧ e = .returned (.slice (some ⟨w.heap.size, 0, none⟩) 0 G) ∧ Blk w' w.heap.size (List.replicate G (.float .f32 0)) ∧ Below w.heap.size w w' := by
  have h1 : ¬ ((n : Int) < 0) := by omega
  have h2 : wrap64 ((n : Int) - 0) = (n : Int) := by unfold wrap64; omega
  have h4 : (n : Int) > 0 := by omega
  obtain ⟨i0, hi0, hz0, hz1, hz2⟩ := info_parts infoF32
  have hrz : ∀ ty, (Builtin.append_ #[28, 3] ty #[.slice none 0 0, .int .i64 (n : Int)]).run Tryz.prog w = .ok (.slice (some ⟨w.heap.size, 0, none⟩) n (grownCap w n 0 27)) (w.drew.alloc (.cells (Builtin.zeroCells (Value.float .f32 0).cells n ++ Builtin.zeroCells (Value.float .f32 0).cells (grownCap w n 0 27 - n)) 27)) := fun ty =>
    Lib.run_append_nil_zeros w 28 3 ty 27 i0 (.float .f32 0) .i64 .i64 Tryz.underlying28 underI hi0 hz0 n hn (by omega) (by omega) (by rw [hz2]; omega)
  have hGn : n ≤ grownCap w n 0 27 := grownCap_ge w _ _ _
  have hG63 := grownCap_le_maxLen w n 0 27 (by unfold maxLen; omega)
  obtain ⟨G, hG⟩ : ∃ G, G = grownCap w n 0 27 := ⟨_, rfl⟩
  rw [← hG] at hrz hGn hG63
  have hG2 : G ≤ 9223372036854775807 := by unfold maxLen at hG63; omega
  have HZ := Lib.hid hrz
  have HCS : Hid (Builtin.zeroCells (Value.float .f32 0).cells n ++ Builtin.zeroCells (Value.float .f32 0).cells (G - n) = (List.replicate G (Value.float .f32 0)).toArray) := Lib.hid (by
    apply Array.ext
    · simp [Builtin.zeroCells, Value.cells]; omega
    · intro i h1 h2
      simp [Builtin.zeroCells, Value.cells, Array.getElem_append, Nat.mod_one])
  rw [HCS.out] at HZ
  clear hrz hG hi0 hz0 hz1 hz2
  go_enter Tryz.func77, Tryz.ntmps77
  go_wp2_with (at_builtin; refine Lib.wpList_append_run _ rfl _ _ _ _ rfl _ _ rfl rfl _ _ (HZ.out _) ?_)
  go_ret
  exact ⟨G, hGn, hG63, rfl, Blk.new w.drew _ _ _ (by simp), by (repeat (first | exact Below.refl _ _ | assumption | (refine Below.setCell ?_ (by first | (simp; done) | (simp; omega) | omega) _) | (refine Below.drew ?_) | (refine below_drewN ?_ _) | (refine Below.alloc ?_ (by first | (simp; done) | (simp; omega) | omega) _) | (refine Below.trans ?_ (Below.mono (by assumption) (by first | (simp; done) | (simp; omega) | omega)))))⟩
/-- The first n of the pieces, one behind another. -/
def jn (p : Nat → List Nat) : Nat → List Nat
  | 0 => []
  | n + 1 => jn p n ++ p n
theorem jn_le (p : Nat → List Nat) : ∀ {n m : Nat}, n ≤ m → (jn p n).length ≤ (jn p m).length
  | n, m, h => by
    induction m with
    | zero => obtain rfl : n = 0 := by omega
              exact Nat.le_refl _
    | succ m ih =>
      by_cases e : n = m + 1
      · subst e; exact Nat.le_refl _
      · have := ih (by omega)
        simp only [jn, List.length_append]; omega
/-- A row of the call's own that grows in its room. -/
structure ApR (w W : World) (B G : Nat) (xs : List Nat) : Prop where
  lt : B < W.heap.size
  nb : w.heap.size ≤ B
  room : xs.length ≤ G
  gm : G ≤ maxLen
  c : ∀ j v, xs[j]? = some v → W.cell? ⟨B, j, none⟩ = some (.float .f32 v)
  t : ∀ j, j < G → (W.cell? ⟨B, j, none⟩).isSome = true ∧ W.frozen? ⟨B, j, none⟩ = false
  bel : Below w.heap.size w W
theorem ApR.mk0 {w w' : World} {G : Nat} (hb : Below w.heap.size w w') (hk : Blk w' w.heap.size (List.replicate G (.float .f32 0))) (hm : G ≤ maxLen) : ApR w w' w.heap.size G [] :=
  ⟨hk.lt, Nat.le_refl _, Nat.zero_le _, hm, fun j v h => by simp at h, fun j hj => ⟨by rw [hk.c j (.float .f32 0) (by simp [hj])]; rfl, hk.f j⟩, hb⟩
theorem ApR.app {w W : World} {B G : Nat} {xs ys : List Nat} (h : ApR w W B G xs) (hr : xs.length + ys.length ≤ G) : ApR w (W.setCells B xs.length (ys.map (Value.float .f32))) B G (xs ++ ys) := by
  have hsp : ∀ j, j < (ys.map (Value.float .f32)).length → (W.cell? ⟨B, xs.length + j, none⟩).isSome = true := fun j hj => (h.t _ (by simp at hj; omega)).1
  refine ⟨by rw [size_setCellsG]; exact h.lt, h.nb, by simp; omega, h.gm, fun j v hj => ?_, fun j hj => ?_, below_setCellsG h.bel B h.nb _ _⟩
  · by_cases hjx : j < xs.length
    · rw [List.getElem?_append_left hjx] at hj
      rw [World.cell?_setCells_out B _ _ _ _ (fun _ _ => Or.inl (by show j < xs.length; omega))]
      exact h.c j v hj
    · rw [List.getElem?_append_right (by omega)] at hj
      have hlt := (List.getElem?_eq_some_iff.1 hj).1
      have := World.cell?_setCells_in B (ys.map (Value.float .f32)) xs.length W hsp (j - xs.length) (by simp; omega)
      rw [show xs.length + (j - xs.length) = j by omega] at this
      rw [this]
      obtain ⟨h1, h2⟩ := List.getElem?_eq_some_iff.1 hj
      simp [h2]
  · rw [World.frozen?_setCells]
    refine ⟨?_, (h.t j hj).2⟩
    by_cases hj2 : xs.length ≤ j ∧ j < xs.length + (ys.map (Value.float .f32)).length
    · have := World.cell?_setCells_in B (ys.map (Value.float .f32)) xs.length W hsp (j - xs.length) (by omega)
      rw [show xs.length + (j - xs.length) = j by omega] at this
      rw [this]; rfl
    · rw [World.cell?_setCells_out B _ _ _ _ (fun _ _ => by show j < xs.length ∨ xs.length + (ys.map (Value.float .f32)).length ≤ j; omega)]
      exact (h.t j hj).1
set_option maxRecDepth 100000 in
set_option maxHeartbeats 3200000 in
theorem Concat_any (p : Nat → List Nat) (n b0 o0 c0 : Nat) (w : World) (hn : n ≤ c0) (hc0 : c0 ≤ 9223372036854775807) (h0 : 0 < (jn p n).length) (hb : (jn p n).length ≤ 1000)
    (hp : ∀ i, i < n → ∃ b o c, w.cell? ⟨b0, o0 + i, none⟩ = some (.slice (some ⟨b, o, none⟩) (p i).length c) ∧ ∀ j v, (p i)[j]? = some v → w.cell? ⟨b, o + j, none⟩ = some (.float .f32 v)) :
    Calls Tryz.prog 43 #[.slice (some ⟨b0, o0, none⟩) n c0] w fun e w' => ∃ B G, e = .returned (.slice (some ⟨B, 0, none⟩) (jn p n).length G) ∧ (∀ i, i < (jn p n).length → w'.cell? ⟨B, 0 + i, none⟩ = some (.float .f32 ((jn p n).getD i 0))) ∧ Below w.heap.size w w' := by
  have HP := Lib.hid hp
  clear hp
  go_enter Tryz.func43, Tryz.ntmps43
  go_wp2_with fail
  go_loopw [3, 11] (fun s3 s11 wr => ∃ k : Nat, k ≤ n ∧ s3 = .int .i64 ((jn p k).length : Int) ∧ s11 = .int .i64 k ∧ wr = w) (fun s3 s11 _ => n - (intOf s11).toNat)
  case atStart => exact ⟨0, Nat.zero_le _, rfl, rfl, rfl⟩
  case round =>
    obtain ⟨k, hk, rfl, rfl, rfl⟩ := hrel
    by_cases hkn : k < n
    · have hkni : (k : Int) < (n : Int) := by omega
      obtain ⟨b, o, c, hc1, hc2⟩ := HP.out k hkn
      have hl := jn_le p (show k + 1 ≤ n by omega)
      simp only [jn, List.length_append] at hl
      have HL := Lib.hid (show (jn p (k + 1)).length = (jn p k).length + (p k).length by simp only [jn, List.length_append])
      obtain ⟨x, hx⟩ : ∃ x, x = (jn p k).length := ⟨_, rfl⟩
      obtain ⟨y, hy⟩ : ∃ y, y = (p k).length := ⟨_, rfl⟩
      rw [← hx, ← hy] at HL
      rw [← hy] at hc1
      rw [← hx, ← hy] at hl
      rw [← hx]
      clear hc2 hx hy
      have e1 : wrap64 ((x : Int) + (y : Int)) = (x : Int) + (y : Int) := by unfold wrap64; omega
      have e2 : ¬ ((x : Int) + (y : Int) < 0) := by omega
      go_wp2_with fail
      go_roundw
      case rel => exact ⟨k + 1, by omega, by rw [HL.out]; simp, by go_num, by first | rfl | trivial⟩
      case measure => simp [intOf]; omega
    · have hkni : ¬ (k : Int) < (n : Int) := by omega
      obtain rfl : k = n := by omega
      go_wp2_with (go_at_call 77; refine (Grow_nil (jn p k).length h0 hb _).mono ?_; rintro e w1 ⟨G, hG1, hG2, rfl, hk1, hb1⟩; have HA := Lib.hid (ApR.mk0 hb1 hk1 hG2); clear hk1 hb1)
      obtain ⟨B, hB⟩ : ∃ B, B = wr.heap.size := ⟨_, rfl⟩
      rw [← hB]
      rw [← hB] at HA
      clear hB
      go_loopw [6, 27] (fun s6 s27 wq => ∃ i : Nat, i ≤ k ∧ s27 = .int .i64 i ∧ s6 = .slice (some ⟨B, 0, none⟩) (jn p i).length G ∧ ApR wr wq B G (jn p i)) (fun s6 s27 _ => k - (intOf s27).toNat)
      case atStart => exact ⟨0, Nat.zero_le _, rfl, rfl, HA.out⟩
      case round =>
        obtain ⟨i, hi, rfl, rfl, hA⟩ := hrel
        have HR := Lib.hid hA
        clear hA
        by_cases hik : i < k
        · have hiki : (i : Int) < (k : Int) := by omega
          obtain ⟨b, o, c, hc1, hc2⟩ := HP.out i hik
          have hl := jn_le p (show i + 1 ≤ k by omega)
          simp only [jn, List.length_append] at hl
          have hG3 : G ≤ 9223372036854775807 := by unfold maxLen at hG2; omega
          have c1 := (HR.out.bel.cell (p := ⟨b0, o0 + i, none⟩) (cell_lt hc1)).trans hc1
          have cl := cell_lt c1; simp only at cl
          obtain ⟨i0, hi0, hz0, hz1, hz2⟩ := info_parts infoF32
          have hnx : (p i).length = (p i).length * 1 := (Nat.mul_one _).symm
          have hrun : ∀ ty, (Builtin.append_ #[28, 28] ty #[.slice (some ⟨B, 0, none⟩) (jn p i).length G, .slice (some ⟨b, o, none⟩) (p i).length c]).run Tryz.prog wr = .ok (.slice (some ⟨B, 0, none⟩) ((jn p i).length + (p i).length) G) (wr.setCells B (jn p i).length ((p i).map (Value.float .f32))) := fun ty => by
            have h := run_append_room_cells (P := Tryz.prog) wr 28 ty 27 i0 Tryz.underlying28 hi0 B 0 (jn p i).length G ⟨b, o, none⟩ (p i).length c ((p i).map (Value.float .f32)) (by rw [hz1]; simp) (fun j u hj => by
                rw [Addr.add_lit]
                rw [List.getElem?_map] at hj
                cases hv : (p i)[j]? with
                | none => rw [hv] at hj; cases hj
                | some v =>
                  rw [hv] at hj
                  have hj : Value.float .f32 v = u := by simpa using hj
                  have h3 := hc2 j v hv
                  rw [HR.out.bel.cell (p := ⟨b, o + j, none⟩) (cell_lt h3), h3, hj]) (by simp only [List.mem_map]; rintro u ⟨v, -, rfl⟩; rfl) (by omega) (fun j hj => by rw [hz1]; simp only [Nat.zero_add, Nat.mul_one]; exact (HR.out.t _ (by simp at hj; omega)).1) (fun j hj => by rw [hz1]; simp only [Nat.zero_add, Nat.mul_one]; exact (HR.out.t _ (by simp at hj; omega)).2)
            rw [hz1] at h
            simpa only [Nat.zero_add, Nat.mul_one] using h
          have HRUN := Lib.hid hrun
          have HNX := Lib.hid (HR.out.app (ys := p i) (by omega))
          have HJ := Lib.hid (show jn p (i + 1) = jn p i ++ p i from rfl)
          have HJL := Lib.hid (show (jn p (i + 1)).length = (jn p i).length + (p i).length by rw [HJ.out, List.length_append])
          rw [← HJ.out] at HNX
          obtain ⟨x, hx⟩ : ∃ x, x = (jn p i).length := ⟨_, rfl⟩
          obtain ⟨y, hy⟩ : ∃ y, y = (p i).length := ⟨_, rfl⟩
          rw [← hx, ← hy] at HRUN HJL
          rw [← hx] at HNX
          rw [← hy] at c1
          rw [← hx]
          clear hc1 hc2 hi0 hz0 hz1 hz2 hnx hrun hx hy hl
          go_wp2_with (at_builtin; refine Lib.wpList_append_run _ rfl _ _ _ _ rfl _ _ rfl rfl _ _ (HRUN.out _) ?_)
          go_roundw
          case rel => exact ⟨i + 1, by omega, by go_num, by rw [HJL.out], HNX.out⟩
          case measure => simp [intOf]; omega
        · have hiki : ¬ (i : Int) < (k : Int) := by omega
          obtain rfl : i = k := by omega
          go_wp2_with fail
          go_ret
          exact ⟨B, ⟨G, rfl⟩, fun j hj => HR.out.c j _ (by rw [List.getElem?_eq_getElem hj]; rfl), HR.out.bel⟩
end Go.Proofs.YthlomgbchmhjiaaGreatDoor

set_option linter.unusedSimpArgs false
namespace Go.Proofs.YthlomgbchmhjiaaGreatDoor
open Go Go.RowKit
def pwL (v : Nat) : Bool := FloatKind.f32.format.order v 1031798784 == some .lt
def pwG (v : Nat) : Bool := FloatKind.f32.format.order v 1098907648 == some .gt
def pwB (v : Nat) : Bool := pwL v || pwG v
def pw3 (a b c : Nat) : Bool := if pwB a then false else if pwB b then false else !(pwB c)
def ptB (v : Int) : Bool := v < 0 || 50 < v
def pt3 (a b c : Int) : Int := if ptB a then 3 else if ptB b then 3 else if ptB c then 3 else 0
theorem ixf0 (a b c : Nat) : ∀ w, (Instr.index 50 (.agg #[.float .f32 a, .float .f32 b, .float .f32 c]) (.int .i64 0)).run Tryz.prog w = .ok (.float .f32 a) w := fun _ => by kernel_rfl
theorem ixf1 (a b c : Nat) : ∀ w, (Instr.index 50 (.agg #[.float .f32 a, .float .f32 b, .float .f32 c]) (.int .i64 1)).run Tryz.prog w = .ok (.float .f32 b) w := fun _ => by kernel_rfl
theorem ixf2 (a b c : Nat) : ∀ w, (Instr.index 50 (.agg #[.float .f32 a, .float .f32 b, .float .f32 c]) (.int .i64 2)).run Tryz.prog w = .ok (.float .f32 c) w := fun _ => by kernel_rfl
theorem ixi0 (a b c : Int) : ∀ w, (Instr.index 61 (.agg #[.int .i64 a, .int .i64 b, .int .i64 c]) (.int .i64 0)).run Tryz.prog w = .ok (.int .i64 a) w := fun _ => by kernel_rfl
theorem ixi1 (a b c : Int) : ∀ w, (Instr.index 61 (.agg #[.int .i64 a, .int .i64 b, .int .i64 c]) (.int .i64 1)).run Tryz.prog w = .ok (.int .i64 b) w := fun _ => by kernel_rfl
theorem ixi2 (a b c : Int) : ∀ w, (Instr.index 61 (.agg #[.int .i64 a, .int .i64 b, .int .i64 c]) (.int .i64 2)).run Tryz.prog w = .ok (.int .i64 c) w := fun _ => by kernel_rfl
set_option maxRecDepth 100000 in
set_option maxHeartbeats 1600000 in
theorem powered_any (a b c : Nat) (w : World) : Calls Tryz.prog 44 #[.agg #[.float .f32 a, .float .f32 b, .float .f32 c]] w fun e w' => e = .returned (.bool (pw3 a b c)) ∧ Below w.heap.size w w' := by
  unfold pw3 pwB pwL pwG
  cases ha : (FloatKind.f32.format.order a 1031798784 == some .lt)
  case true =>
    have i0 := ixf0 a b c; have i1 := ixf1 a b c; have i2 := ixf2 a b c
    go_enter Tryz.func44, Tryz.ntmps44
    go_wp2_with fail
    refine wp_loop_rounds 4 ?_
    go_wp2_with (simp only [rounds_succ])
    go_ret
    exact ⟨rfl, by (repeat (first | exact Below.refl _ _ | assumption | (refine Below.setCell ?_ (by first | (simp; done) | (simp; omega) | omega) _) | (refine Below.drew ?_) | (refine below_drewN ?_ _) | (refine Below.alloc ?_ (by first | (simp; done) | (simp; omega) | omega) _) | (refine Below.trans ?_ (Below.mono (by assumption) (by first | (simp; done) | (simp; omega) | omega)))))⟩
  case false =>
    cases ka : (FloatKind.f32.format.order a 1098907648 == some .gt)
    case true =>
      have i0 := ixf0 a b c; have i1 := ixf1 a b c; have i2 := ixf2 a b c
      go_enter Tryz.func44, Tryz.ntmps44
      go_wp2_with fail
      refine wp_loop_rounds 4 ?_
      go_wp2_with (simp only [rounds_succ])
      go_ret
      exact ⟨rfl, by (repeat (first | exact Below.refl _ _ | assumption | (refine Below.setCell ?_ (by first | (simp; done) | (simp; omega) | omega) _) | (refine Below.drew ?_) | (refine below_drewN ?_ _) | (refine Below.alloc ?_ (by first | (simp; done) | (simp; omega) | omega) _) | (refine Below.trans ?_ (Below.mono (by assumption) (by first | (simp; done) | (simp; omega) | omega)))))⟩
    case false =>
      cases hb : (FloatKind.f32.format.order b 1031798784 == some .lt)
      case true =>
        have i0 := ixf0 a b c; have i1 := ixf1 a b c; have i2 := ixf2 a b c
        go_enter Tryz.func44, Tryz.ntmps44
        go_wp2_with fail
        refine wp_loop_rounds 4 ?_
        go_wp2_with (simp only [rounds_succ])
        go_ret
        exact ⟨rfl, by (repeat (first | exact Below.refl _ _ | assumption | (refine Below.setCell ?_ (by first | (simp; done) | (simp; omega) | omega) _) | (refine Below.drew ?_) | (refine below_drewN ?_ _) | (refine Below.alloc ?_ (by first | (simp; done) | (simp; omega) | omega) _) | (refine Below.trans ?_ (Below.mono (by assumption) (by first | (simp; done) | (simp; omega) | omega)))))⟩
      case false =>
        cases kb : (FloatKind.f32.format.order b 1098907648 == some .gt)
        case true =>
          have i0 := ixf0 a b c; have i1 := ixf1 a b c; have i2 := ixf2 a b c
          go_enter Tryz.func44, Tryz.ntmps44
          go_wp2_with fail
          refine wp_loop_rounds 4 ?_
          go_wp2_with (simp only [rounds_succ])
          go_ret
          exact ⟨rfl, by (repeat (first | exact Below.refl _ _ | assumption | (refine Below.setCell ?_ (by first | (simp; done) | (simp; omega) | omega) _) | (refine Below.drew ?_) | (refine below_drewN ?_ _) | (refine Below.alloc ?_ (by first | (simp; done) | (simp; omega) | omega) _) | (refine Below.trans ?_ (Below.mono (by assumption) (by first | (simp; done) | (simp; omega) | omega)))))⟩
        case false =>
          cases hc : (FloatKind.f32.format.order c 1031798784 == some .lt)
          case true =>
            have i0 := ixf0 a b c; have i1 := ixf1 a b c; have i2 := ixf2 a b c
            go_enter Tryz.func44, Tryz.ntmps44
            go_wp2_with fail
            refine wp_loop_rounds 4 ?_
            go_wp2_with (simp only [rounds_succ])
            go_ret
            exact ⟨rfl, by (repeat (first | exact Below.refl _ _ | assumption | (refine Below.setCell ?_ (by first | (simp; done) | (simp; omega) | omega) _) | (refine Below.drew ?_) | (refine below_drewN ?_ _) | (refine Below.alloc ?_ (by first | (simp; done) | (simp; omega) | omega) _) | (refine Below.trans ?_ (Below.mono (by assumption) (by first | (simp; done) | (simp; omega) | omega)))))⟩
          case false =>
            cases kc : (FloatKind.f32.format.order c 1098907648 == some .gt)
            case true =>
              have i0 := ixf0 a b c; have i1 := ixf1 a b c; have i2 := ixf2 a b c
              go_enter Tryz.func44, Tryz.ntmps44
              go_wp2_with fail
              refine wp_loop_rounds 4 ?_
              go_wp2_with (simp only [rounds_succ])
              go_ret
              exact ⟨rfl, by (repeat (first | exact Below.refl _ _ | assumption | (refine Below.setCell ?_ (by first | (simp; done) | (simp; omega) | omega) _) | (refine Below.drew ?_) | (refine below_drewN ?_ _) | (refine Below.alloc ?_ (by first | (simp; done) | (simp; omega) | omega) _) | (refine Below.trans ?_ (Below.mono (by assumption) (by first | (simp; done) | (simp; omega) | omega)))))⟩
            case false =>
              have i0 := ixf0 a b c; have i1 := ixf1 a b c; have i2 := ixf2 a b c
              go_enter Tryz.func44, Tryz.ntmps44
              go_wp2_with fail
              refine wp_loop_rounds 4 ?_
              go_wp2_with (simp only [rounds_succ])
              go_ret
              exact ⟨rfl, by (repeat (first | exact Below.refl _ _ | assumption | (refine Below.setCell ?_ (by first | (simp; done) | (simp; omega) | omega) _) | (refine Below.drew ?_) | (refine below_drewN ?_ _) | (refine Below.alloc ?_ (by first | (simp; done) | (simp; omega) | omega) _) | (refine Below.trans ?_ (Below.mono (by assumption) (by first | (simp; done) | (simp; omega) | omega)))))⟩
set_option maxRecDepth 100000 in
set_option maxHeartbeats 1600000 in
theorem checkPoints_any (a b c : Int) (w : World) : Calls Tryz.prog 29 #[.agg #[.int .i64 a, .int .i64 b, .int .i64 c]] w fun e w' => e = .returned (.int .i64 (pt3 a b c)) ∧ Below w.heap.size w w' := by
  unfold pt3 ptB
  by_cases ha : a < 0
  ·
    simp only [ha, decide_true, decide_false, Bool.or_true, Bool.true_or, Bool.or_self, if_true, if_false, Bool.false_eq_true]
    have i0 := ixi0 a b c; have i1 := ixi1 a b c; have i2 := ixi2 a b c
    go_enter Tryz.func29, Tryz.ntmps29
    go_wp2_with fail
    refine wp_loop_rounds 4 ?_
    go_wp2_with (simp only [rounds_succ])
    go_ret
    exact ⟨rfl, by (repeat (first | exact Below.refl _ _ | assumption | (refine Below.setCell ?_ (by first | (simp; done) | (simp; omega) | omega) _) | (refine Below.drew ?_) | (refine below_drewN ?_ _) | (refine Below.alloc ?_ (by first | (simp; done) | (simp; omega) | omega) _) | (refine Below.trans ?_ (Below.mono (by assumption) (by first | (simp; done) | (simp; omega) | omega)))))⟩
  ·
    by_cases ka : 50 < a
    ·
      simp only [ha, ka, decide_true, decide_false, Bool.or_true, Bool.true_or, Bool.or_self, if_true, if_false, Bool.false_eq_true]
      have i0 := ixi0 a b c; have i1 := ixi1 a b c; have i2 := ixi2 a b c
      go_enter Tryz.func29, Tryz.ntmps29
      go_wp2_with fail
      refine wp_loop_rounds 4 ?_
      go_wp2_with (simp only [rounds_succ])
      go_ret
      exact ⟨rfl, by (repeat (first | exact Below.refl _ _ | assumption | (refine Below.setCell ?_ (by first | (simp; done) | (simp; omega) | omega) _) | (refine Below.drew ?_) | (refine below_drewN ?_ _) | (refine Below.alloc ?_ (by first | (simp; done) | (simp; omega) | omega) _) | (refine Below.trans ?_ (Below.mono (by assumption) (by first | (simp; done) | (simp; omega) | omega)))))⟩
    ·
      by_cases hb : b < 0
      ·
        simp only [ha, ka, hb, decide_true, decide_false, Bool.or_true, Bool.true_or, Bool.or_self, if_true, if_false, Bool.false_eq_true]
        have i0 := ixi0 a b c; have i1 := ixi1 a b c; have i2 := ixi2 a b c
        go_enter Tryz.func29, Tryz.ntmps29
        go_wp2_with fail
        refine wp_loop_rounds 4 ?_
        go_wp2_with (simp only [rounds_succ])
        go_ret
        exact ⟨rfl, by (repeat (first | exact Below.refl _ _ | assumption | (refine Below.setCell ?_ (by first | (simp; done) | (simp; omega) | omega) _) | (refine Below.drew ?_) | (refine below_drewN ?_ _) | (refine Below.alloc ?_ (by first | (simp; done) | (simp; omega) | omega) _) | (refine Below.trans ?_ (Below.mono (by assumption) (by first | (simp; done) | (simp; omega) | omega)))))⟩
      ·
        by_cases kb : 50 < b
        ·
          simp only [ha, ka, hb, kb, decide_true, decide_false, Bool.or_true, Bool.true_or, Bool.or_self, if_true, if_false, Bool.false_eq_true]
          have i0 := ixi0 a b c; have i1 := ixi1 a b c; have i2 := ixi2 a b c
          go_enter Tryz.func29, Tryz.ntmps29
          go_wp2_with fail
          refine wp_loop_rounds 4 ?_
          go_wp2_with (simp only [rounds_succ])
          go_ret
          exact ⟨rfl, by (repeat (first | exact Below.refl _ _ | assumption | (refine Below.setCell ?_ (by first | (simp; done) | (simp; omega) | omega) _) | (refine Below.drew ?_) | (refine below_drewN ?_ _) | (refine Below.alloc ?_ (by first | (simp; done) | (simp; omega) | omega) _) | (refine Below.trans ?_ (Below.mono (by assumption) (by first | (simp; done) | (simp; omega) | omega)))))⟩
        ·
          by_cases hc : c < 0
          ·
            simp only [ha, ka, hb, kb, hc, decide_true, decide_false, Bool.or_true, Bool.true_or, Bool.or_self, if_true, if_false, Bool.false_eq_true]
            have i0 := ixi0 a b c; have i1 := ixi1 a b c; have i2 := ixi2 a b c
            go_enter Tryz.func29, Tryz.ntmps29
            go_wp2_with fail
            refine wp_loop_rounds 4 ?_
            go_wp2_with (simp only [rounds_succ])
            go_ret
            exact ⟨rfl, by (repeat (first | exact Below.refl _ _ | assumption | (refine Below.setCell ?_ (by first | (simp; done) | (simp; omega) | omega) _) | (refine Below.drew ?_) | (refine below_drewN ?_ _) | (refine Below.alloc ?_ (by first | (simp; done) | (simp; omega) | omega) _) | (refine Below.trans ?_ (Below.mono (by assumption) (by first | (simp; done) | (simp; omega) | omega)))))⟩
          ·
            by_cases kc : 50 < c
            ·
              simp only [ha, ka, hb, kb, hc, kc, decide_true, decide_false, Bool.or_true, Bool.true_or, Bool.or_self, if_true, if_false, Bool.false_eq_true]
              have i0 := ixi0 a b c; have i1 := ixi1 a b c; have i2 := ixi2 a b c
              go_enter Tryz.func29, Tryz.ntmps29
              go_wp2_with fail
              refine wp_loop_rounds 4 ?_
              go_wp2_with (simp only [rounds_succ])
              go_ret
              exact ⟨rfl, by (repeat (first | exact Below.refl _ _ | assumption | (refine Below.setCell ?_ (by first | (simp; done) | (simp; omega) | omega) _) | (refine Below.drew ?_) | (refine below_drewN ?_ _) | (refine Below.alloc ?_ (by first | (simp; done) | (simp; omega) | omega) _) | (refine Below.trans ?_ (Below.mono (by assumption) (by first | (simp; done) | (simp; omega) | omega)))))⟩
            ·
              simp only [ha, ka, hb, kb, hc, kc, decide_true, decide_false, Bool.or_true, Bool.true_or, Bool.or_self, if_true, if_false, Bool.false_eq_true]
              have i0 := ixi0 a b c; have i1 := ixi1 a b c; have i2 := ixi2 a b c
              go_enter Tryz.func29, Tryz.ntmps29
              go_wp2_with fail
              refine wp_loop_rounds 4 ?_
              go_wp2_with (simp only [rounds_succ])
              go_ret
              exact ⟨rfl, by (repeat (first | exact Below.refl _ _ | assumption | (refine Below.setCell ?_ (by first | (simp; done) | (simp; omega) | omega) _) | (refine Below.drew ?_) | (refine below_drewN ?_ _) | (refine Below.alloc ?_ (by first | (simp; done) | (simp; omega) | omega) _) | (refine Below.trans ?_ (Below.mono (by assumption) (by first | (simp; done) | (simp; omega) | omega)))))⟩
def hpB (c : CurveD) : Bool := decide (0 < c.xs.length) || decide (0 < c.ys.length)
def curveV (c : CurveD) : Value := .agg #[.int .i64 c.k, .slice c.xa c.xs.length c.xc, .slice c.ya c.ys.length c.yc]
set_option maxRecDepth 100000 in
set_option maxHeartbeats 1600000 in
theorem hasPoints_any (c : CurveD) (w : World) : Calls Tryz.prog 26 #[curveV c] w fun e w' => e = .returned (.bool (hpB c)) ∧ Below w.heap.size w w' := by
  unfold hpB curveV
  obtain ⟨x, hx⟩ : ∃ x, x = c.xs.length := ⟨_, rfl⟩
  obtain ⟨y, hy⟩ : ∃ y, y = c.ys.length := ⟨_, rfl⟩
  rw [← hx, ← hy]
  clear hx hy
  by_cases h1 : 0 < x
  · have h1i : 0 < (x : Int) := by omega
    rw [show decide (0 < x) = true from decide_eq_true h1]
    go_enter Tryz.func26, Tryz.ntmps26
    go_wp2_with fail
    go_ret
    exact ⟨rfl, by (repeat (first | exact Below.refl _ _ | assumption | (refine Below.setCell ?_ (by first | (simp; done) | (simp; omega) | omega) _) | (refine Below.drew ?_) | (refine below_drewN ?_ _) | (refine Below.alloc ?_ (by first | (simp; done) | (simp; omega) | omega) _) | (refine Below.trans ?_ (Below.mono (by assumption) (by first | (simp; done) | (simp; omega) | omega)))))⟩
  · have h1i : ¬ 0 < (x : Int) := by omega
    rw [show decide (0 < x) = false from decide_eq_false h1]
    by_cases h2 : 0 < y
    · have h2i : 0 < (y : Int) := by omega
      rw [show decide (0 < y) = true from decide_eq_true h2]
      go_enter Tryz.func26, Tryz.ntmps26
      go_wp2_with fail
      go_ret
      exact ⟨rfl, by (repeat (first | exact Below.refl _ _ | assumption | (refine Below.setCell ?_ (by first | (simp; done) | (simp; omega) | omega) _) | (refine Below.drew ?_) | (refine below_drewN ?_ _) | (refine Below.alloc ?_ (by first | (simp; done) | (simp; omega) | omega) _) | (refine Below.trans ?_ (Below.mono (by assumption) (by first | (simp; done) | (simp; omega) | omega)))))⟩
    · have h2i : ¬ 0 < (y : Int) := by omega
      rw [show decide (0 < y) = false from decide_eq_false h2]
      go_enter Tryz.func26, Tryz.ntmps26
      go_wp2_with fail
      go_ret
      exact ⟨rfl, by (repeat (first | exact Below.refl _ _ | assumption | (refine Below.setCell ?_ (by first | (simp; done) | (simp; omega) | omega) _) | (refine Below.drew ?_) | (refine below_drewN ?_ _) | (refine Below.alloc ?_ (by first | (simp; done) | (simp; omega) | omega) _) | (refine Below.trans ?_ (Below.mono (by assumption) (by first | (simp; done) | (simp; omega) | omega)))))⟩
def mxE (l : List Nat) : Int := if allNum l then 0 else 2
set_option maxRecDepth 100000 in
set_option maxHeartbeats 1600000 in
theorem CheckMixer_any (v0 v1 v2 v3 v4 v5 v6 v7 v8 v9 v10 v11 : Nat) (w : World) : Calls Tryz.prog 28 #[.agg #[.float .f32 v0, .float .f32 v1, .float .f32 v2, .float .f32 v3, .float .f32 v4, .float .f32 v5, .float .f32 v6, .float .f32 v7, .float .f32 v8, .float .f32 v9, .float .f32 v10, .float .f32 v11]] w fun e w' => e = .returned (.int .i64 (mxE [v0, v1, v2, v3, v4, v5, v6, v7, v8, v9, v10, v11])) ∧ Below w.heap.size w w' := by
  unfold mxE
  have HA : Hid (∀ b w', Blk w' b [.float .f32 v0, .float .f32 v1, .float .f32 v2, .float .f32 v3, .float .f32 v4, .float .f32 v5, .float .f32 v6, .float .f32 v7, .float .f32 v8, .float .f32 v9, .float .f32 v10, .float .f32 v11] → Calls Tryz.prog 9 #[.slice (some ⟨b, 0, none⟩) 12 12] w' fun e w'' => e = .returned (.bool (allNum [v0, v1, v2, v3, v4, v5, v6, v7, v8, v9, v10, v11])) ∧ w' = w'') := Lib.hid (fun b w' hk => AllNumbers_any b 0 12 12 [v0, v1, v2, v3, v4, v5, v6, v7, v8, v9, v10, v11] w' rfl (by decide) (fun i hi => by
    rw [Nat.zero_add]
    match i, hi with
    | 0, _ => exact hk.c 0 _ rfl
    | 1, _ => exact hk.c 1 _ rfl
    | 2, _ => exact hk.c 2 _ rfl
    | 3, _ => exact hk.c 3 _ rfl
    | 4, _ => exact hk.c 4 _ rfl
    | 5, _ => exact hk.c 5 _ rfl
    | 6, _ => exact hk.c 6 _ rfl
    | 7, _ => exact hk.c 7 _ rfl
    | 8, _ => exact hk.c 8 _ rfl
    | 9, _ => exact hk.c 9 _ rfl
    | 10, _ => exact hk.c 10 _ rfl
    | 11, _ => exact hk.c 11 _ rfl))
  cases h : allNum [v0, v1, v2, v3, v4, v5, v6, v7, v8, v9, v10, v11] <;> rw [h] at HA
  all_goals
    go_enter Tryz.func28, Tryz.ntmps28
    go_wp2_with (go_at_call 9; refine (HA.out _ _ (Blk.new _ _ _ _ rfl)).mono ?_; rintro e w1 ⟨rfl, rfl⟩)
    go_ret
    exact ⟨rfl, by (repeat (first | exact Below.refl _ _ | assumption | (refine Below.setCell ?_ (by first | (simp; done) | (simp; omega) | omega) _) | (refine Below.drew ?_) | (refine below_drewN ?_ _) | (refine Below.alloc ?_ (by first | (simp; done) | (simp; omega) | omega) _) | (refine Below.trans ?_ (Below.mono (by assumption) (by first | (simp; done) | (simp; omega) | omega)))))⟩
end Go.Proofs.YthlomgbchmhjiaaGreatDoor

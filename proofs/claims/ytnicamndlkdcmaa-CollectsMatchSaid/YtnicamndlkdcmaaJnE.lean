/- Parts of a frame: rows of frames, and frame.Join at any region. Conditions: what each theorem names. -/
import Derived.Test.YtnicamndlkdcmaaJnD
import Derived.Test.YtnicamndlkdcmaaSpE
import Derived.Test.YtnicamndlkdcmaaJnQ
namespace Go.Proofs.Ytnicamndlkdcmaa
open Go Go.RowKit
theorem infoFrame : (Try.prog.info? 43).map (fun i => (i.zero, i.size, i.bytes)) = some (some (.agg #[.int .i64 0, .int .i64 0, .int .i64 0, .int .i64 0, .slice none 0 0]), 5, 56) := by kernel_rfl
instance : Inhabited Fr := ⟨⟨0, 0, 0, 0, none, 0, 0, fun _ => 0⟩⟩
/-- A row of frames that grows. -/
structure PtR (w wr : World) (u : Value) (l : List Fr) : Prop where
  own : wr.ownsRow w.heap.size 43 5 u l.length (l.flatMap frV)
  bel : Below w.heap.size w wr
theorem PtR.nil (w : World) : PtR w w (.slice none 0 0) [] := ⟨World.ownsRow_nil _ _ _ _, Below.refl _ _⟩
theorem PtR.past {w wr wy : World} {u : Value} {l : List Fr} (k : PtR w wr u l) (h : Below wr.heap.size wr wy) : PtR w wy u l := ⟨own_past k.own h, k.bel.trans (h.mono k.bel.size)⟩
theorem PtR.app {w wr wa w1 : World} {u u' : Value} {l : List Fr} {x : Fr} (k0 : PtR w wr u l) (hb : Below wr.heap.size wr wa) (hown : w1.ownsRow w.heap.size 43 5 u' (l.length + 1) (l.flatMap frV ++ frV x)) (hg : wa.grownBy w1 u.ownBlock) : PtR w w1 u' (l ++ [x]) := by
  have k := k0.past hb
  refine ⟨by simpa using hown, k.bel.grown hg k.bel.size (fun j hj => ?_)⟩
  exact (k.own.lt j hj).1
theorem flat_get (l : List Fr) {q j : Nat} (hq : q < l.length) (hj : j < 5) : (l.flatMap frV)[q * 5 + j]? = (frV (l.getD q default))[j]? := by
  induction l generalizing q with
  | nil => simp at hq
  | cons a l ih =>
    rw [List.flatMap_cons]
    cases q with
    | zero => rw [List.getElem?_append_left (by simp [frV]; omega)]; simp
    | succ q =>
      rw [List.getElem?_append_right (by simp [frV]; omega)]
      have := ih (q := q) (by simpa using hq)
      rw [show (q + 1) * 5 + j - (frV a).length = q * 5 + j by simp [frV]; omega, this]
      simp
/-- The row is what Join reads. -/
theorem PtR.frs {w wr : World} {u : Value} {l : List Fr} (k : PtR w wr u l) (hr : ∀ x, x ∈ l → 0 < x.an → ∃ b off, x.aa = some ⟨b, off, none⟩ ∧ Row wr b off x.an x.fs) : ∃ (a : Option Addr) (c : Nat), u = .slice a l.length c ∧ FrsAt wr a l.length (fun q => l.getD q default) := by
  have h2 : ∀ q, q < l.length → 0 < (l.getD q default).an → ∃ b off, (l.getD q default).aa = some ⟨b, off, none⟩ ∧ Row wr b off (l.getD q default).an (l.getD q default).fs := fun q hq h0 => hr _ (by rw [List.getD_eq_getElem?_getD, List.getElem?_eq_getElem hq]; simp) h0
  rcases Nat.eq_zero_or_pos l.length with h0 | h0
  · rcases k.own.2 with ⟨h1, h2'⟩ | ⟨g, cap, cur, h1, -⟩
    · rw [h2']
      exact ⟨none, 0, by rw [h1], fun h => by omega, fun q hq => by omega⟩
    · exact ⟨_, cap, h1, fun h => by omega, h2⟩
  · obtain ⟨g, c, rfl, -, -, -, -⟩ := own_form k.own h0
    have hc := k.own.cells (g := g) rfl
    refine ⟨_, c, rfl, fun _ => ⟨g, 0, rfl, fun q hq j v hj => ?_⟩, h2⟩
    have hj5 : j < 5 := by
      rcases Nat.lt_or_ge j 5 with h | h
      · exact h
      · rw [List.getElem?_eq_none (by simp [frV]; omega)] at hj; cases hj
    have := hc (q * 5 + j) v (by rw [flat_get l hq hj5]; exact hj)
    rw [Go.WideShapes.add_plain] at this
    simpa using this
/-- The error of Join at any region. -/
def joE (X Y W H : Int) (ps : Nat → Fr) (P : Nat) : Int := firstE (regErr X Y W H) (jnE X Y W.toNat H.toNat ps P)
/-- What Join answers. -/
def JoinAns (w : World) (X Y W H : Int) (ps : Nat → Fr) (P : Nat) (e : Ending) (w' : World) : Prop :=
  (joE X Y W H ps P ≠ 0 ∧ e = .returned (.tuple #[.agg #[.int .i64 0, .int .i64 0, .int .i64 0, .int .i64 0, .slice none 0 0], .int .i64 (joE X Y W H ps P)])) ∨
  (joE X Y W H ps P = 0 ∧ ∃ g n, n ≤ 65536 ∧ e = .returned (.tuple #[.agg #[.int .i64 X, .int .i64 Y, .int .i64 W, .int .i64 H, .slice (some ⟨g, 0, none⟩) n n], .int .i64 0]) ∧ n = 4 * (W.toNat * H.toNat) ∧ w.heap.size + 1 < g ∧ g < w'.heap.size ∧ ∀ i, i < n → w'.cell? ⟨g, 0 + i, none⟩ = some (.float .f32 (jO X Y W.toNat ps P i)))
set_option maxRecDepth 100000 in
set_option maxHeartbeats 3200000 in
theorem Join_all (X Y W H : Int) (ap : Option Addr) (P cp : Nat) (ps : Nat → Fr) (w : World) (hP : P ≤ 9223372036854775807) (h : FrsAt w ap P ps) :
    Calls Try.prog 32 #[.agg #[.int .i64 X, .int .i64 Y, .int .i64 W, .int .i64 H], .slice ap P cp] w fun e w' => JoinAns w X Y W H ps P e w' ∧ Below w.heap.size w w' := by
  by_cases hr : regErr X Y W H = 0
  · obtain ⟨r1, r2, r3, r4, r5, -⟩ := regErr_ok hr
    obtain ⟨W, rfl⟩ : ∃ V : Nat, W = V := ⟨W.toNat, by omega⟩
    obtain ⟨H, rfl⟩ : ∃ V : Nat, H = V := ⟨H.toNat, by omega⟩
    have hWH : W * H ≤ 16384 := by
      have : ((W * H : Nat) : Int) ≤ 16384 := by rw [Int.natCast_mul]; exact r5
      exact_mod_cast this
    have hj : joE X Y W H ps P = jnE X Y W H ps P := by unfold joE; rw [hr]; rfl
    refine (Join_any X Y W H ap P cp ps w hr hP h).mono ?_
    rintro e w' ⟨h1, hb⟩
    refine ⟨?_, hb⟩
    unfold JoinAns
    rw [hj]
    rcases h1 with ⟨h1, rfl⟩ | ⟨h1, g, rfl, h4, h2, h3⟩
    · exact Or.inl ⟨h1, rfl⟩
    · exact Or.inr ⟨h1, g, _, by omega, rfl, by simp, h4, h2, h3⟩
  · have hj : joE X Y W H ps P = regErr X Y W H := firstE_of _ hr
    have hJ := Lib.hid hj
    obtain ⟨F, hF⟩ : ∃ F, F = regErr X Y W H := ⟨_, rfl⟩
    have HF := Lib.hid hF
    have hb : (F != 0) = true := by rw [hF]; simpa using hr
    have HRR := Lib.hid hr
    clear hr hj hF h
    go_enter Try.func32, Try.ntmps32
    go_upto_region 1 with fail
    refine wp_world (fun W1 hW1 => ?_)
    have B1 : Below w.heap.size w W1 := by rw [hW1]; (repeat (first | exact Below.refl _ _ | assumption | (refine Below.setCell ?_ (by first | (simp; done) | (simp; omega) | omega) _) | (refine Below.drew ?_) | (refine below_drewN ?_ _) | (refine Below.alloc ?_ (by first | (simp; done) | (simp; omega) | omega) _) | (refine Below.trans ?_ (Below.mono (by assumption) (by first | (simp; done) | (simp; omega) | omega)))))
    have A1 : Blk W1 w.heap.size [.int .i64 X, .int .i64 Y, .int .i64 W, .int .i64 H] := by rw [hW1]; exact (Blk.new _ _ _ _ rfl).alloc _
    have Z1 : Blk W1 (w.heap.size + 1) [.int .i64 0, .int .i64 0, .int .i64 0, .int .i64 0, .slice none 0 0] := by rw [hW1]; exact Blk.new _ _ _ _ (by simp)
    have H1 := Lib.hid (And.intro Z1 B1)
    have a0 := A1.c 0 _ rfl; have a1 := A1.c 1 _ rfl; have a2 := A1.c 2 _ rfl; have a3 := A1.c 3 _ rfl; have al := A1.lt
    clear hW1 B1 A1 Z1
    go_upto_region 2 with (first | (go_at_call 58; refine (CheckRegion_any _ _ _ _ _).mono ?_; rintro e w2 ⟨rfl, hbb⟩; rw [← HF.out]; have H2 := Lib.hid (And.intro (H1.out.1.past hbb) (H1.out.2.trans (hbb.mono H1.out.2.size))); clear hbb a0 a1 a2 a3 al H1))
    have z0 := H2.out.1.c 0 _ rfl; have z1 := H2.out.1.c 1 _ rfl; have z2 := H2.out.1.c 2 _ rfl; have z3 := H2.out.1.c 3 _ rfl; have z4 := H2.out.1.c 4 _ rfl; have zf := H2.out.1.f; have zl := H2.out.1.lt
    have B2 := H2.out.2
    go_wp2_with fail
    refine bodyPost_ret (v := .tuple #[.agg #[.int .i64 0, .int .i64 0, .int .i64 0, .int .i64 0, .slice none 0 0], .int .i64 F]) (by simp [results, Try.results32, go_sem, z0, z1, z2, z3, z4]) rfl ⟨Or.inl ⟨by rw [hJ.out]; exact HRR.out, by rw [hJ.out, HF.out]⟩, ?_⟩
    exact ((((B2.setCell (by first | (simp; done) | (simp; omega) | omega) _).setCell (by first | (simp; done) | (simp; omega) | omega) _).setCell (by first | (simp; done) | (simp; omega) | omega) _).setCell (by first | (simp; done) | (simp; omega) | omega) _).setCell (by first | (simp; done) | (simp; omega) | omega) _
end Go.Proofs.Ytnicamndlkdcmaa

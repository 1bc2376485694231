/- The identity cube, in the document: dyeref2.IdentityOf; wrong sizes: cube.Identity. Conditions: what each theorem names. -/
import Derived.Test.YtkmjboffjhcoaaaCpF
import Derived.Test.YtkmjboffjhcoaaaCuD
namespace Go.Proofs.Ytkmjboffjhcoaaa
open Go Go.RowKit
theorem part_num : ∀ S, S < 18 → ∀ i, i < S → 2 ≤ S → isN .f32 (partF i S) = false := by decide +kernel
theorem part_exact {S i r : Nat} (hS : 2 ≤ S ∧ S ≤ 17) (hi : i < S) (h : FR .f32 r (partF i S)) : r = partF i S := by
  have hn := part_num S (by omega) i hi hS.1
  have h1 := h.eq
  have h2 : isN .f32 r = false := by rw [← isN_cn, h1]; exact hn
  rw [← h1]
  unfold cn
  rw [h2]; rfl
def idF (S x : Nat) : Nat := idG S (x / 3) (x % 3)
theorem idF_eq {S i j k m : Nat} (hi : i < S) (hj : j < S) (hm : m < 3) : idF S (3 * enI S i j k + m) = partF (if m = 0 then i else if m = 1 then j else k) S := by
  obtain ⟨e1, e2, e3⟩ := enI_dec (k := k) hi hj
  unfold idF
  rw [show (3 * enI S i j k + m) / 3 = enI S i j k by omega, show (3 * enI S i j k + m) % 3 = m by omega]
  rcases (show m = 0 ∨ m = 1 ∨ m = 2 by omega) with rfl | rfl | rfl
  · show partF (enI S i j k % S) S = _; rw [e1]; rfl
  · show partF (enI S i j k / S % S) S = _; rw [e2]; rfl
  · show partF (enI S i j k / S / S) S = _; rw [e3]; rfl
/-- What stands while the singles of an entry are laid. -/
structure IdR (V wr : World) (nb : Nat) (S i j k N : Nat) (v : Value) : Prop where
  y : YR V wr V.heap.size S 0 1065353216 (idF S) N v
  l : Blk wr nb [.int .i64 i, .int .i64 j, .int .i64 k]
  o : some nb ≠ v.ownBlock
  g : V.heap.size < nb
set_option maxRecDepth 100000 in
set_option maxHeartbeats 3200000 in
theorem IdentityOf_c (S i j k ps : Nat) (V w : World) (s : Value) (hS : 2 ≤ S ∧ S ≤ 17) (hi : i < S) (hj : j < S) (hk : k < S) (Y : YR V w V.heap.size S 0 1065353216 (idF S) (3 * enI S i j k) s) (hps : V.cell? ⟨ps, 0, none⟩ = some (.int .i64 S)) (x : Value) :
    Calls Try.prog 180 #[x, .int .i64 i, .int .i64 j, .int .i64 k, .pointer (some ⟨V.heap.size, 0, none⟩), .pointer (some ⟨ps, 0, none⟩)] w fun e w' =>
      e = .returned (.tuple #[]) ∧ ∃ s', YR V w' V.heap.size S 0 1065353216 (idF S) (3 * enI S i j k + 3) s' := by
  obtain ⟨b1, b2⟩ := cub_nat hS.2
  have hlt := enI_lt hi hj hk
  have lps := cell_lt hps; simp only at lps
  have HPS := Lib.hid hps
  have HID := Lib.hid (fun m hm => idF_eq (k := k) hi hj hm : ∀ m, m < 3 → idF S (3 * enI S i j k + m) = _)
  have HNN := Lib.hid (And.intro hS (And.intro hi (And.intro hj hk)))
  have e1 : IntKind.i64.wrap ((S : Int) - 1) = (S : Int) - 1 := by rw [IntKind.wrap_i64]; omega
  obtain ⟨i0, hi0, hz0, hz1, hz2⟩ := info_parts infoF32
  obtain ⟨N, hN⟩ : ∃ N, N = 3 * enI S i j k := ⟨_, rfl⟩
  rw [← hN] at Y HID ⊢
  have hN6 : N ≤ 14739 := by omega
  have HY := Lib.hid Y
  clear Y hN hlt b1 b2 hS hi hj hk hps
  go_enter Try.func180, Try.ntmps180
  go_upto_region 1 with fail
  refine wp_world (fun W hW => ?_)
  have L0 : Blk W w.heap.size [.int .i64 i, .int .i64 j, .int .i64 k] := by rw [hW]; exact Blk.new _ _ _ _ rfl
  have B0 : Below w.heap.size w W := by rw [hW]; (repeat (first | exact Below.refl _ _ | assumption | (refine Below.setCell ?_ (by first | (simp; done) | (simp; omega) | omega) _) | (refine Below.drew ?_) | (refine below_drewN ?_ _) | (refine Below.alloc ?_ (by first | (simp; done) | (simp; omega) | omega) _) | (refine Below.trans ?_ (Below.mono (by assumption) (by first | (simp; done) | (simp; omega) | omega)))))
  have R0 : IdR V W w.heap.size S i j k (N + 0) s := ⟨HY.out.past B0, L0, fun e => by have := (HY.out.own.lt _ e.symm).2; omega, HY.out.cub.lt⟩
  have HR0 := Lib.hid R0
  clear hW L0 B0 R0
  generalize w.heap.size = nb at *
  go_loopw [17] (fun s17 wr => ∃ m : Nat, m ≤ 3 ∧ s17 = .int .i64 m ∧ ∃ v, IdR V wr nb S i j k (N + m) v) (fun s17 _ => 3 - (intOf s17).toNat)
  case atStart => exact ⟨0, by omega, rfl, _, HR0.out⟩
  case round =>
    obtain ⟨m, hm, rfl, v, hR⟩ := hrel
    have HR := Lib.hid hR
    clear hR HR0
    by_cases hm3 : m < 3
    · have hmi : (m : Int) < 3 := by omega
      obtain ⟨z, hz⟩ : ∃ z : Nat, z = (if m = 0 then i else if m = 1 then j else k) := ⟨_, rfl⟩
      have hzS : z < S := by
        have := HNN.out.2
        rw [hz]; split
        · omega
        · split <;> omega
      have cz : wr.cell? ⟨nb, m, none⟩ = some (.int .i64 (z : Nat)) := by
        rw [hz]
        rcases (show m = 0 ∨ m = 1 ∨ m = 2 by omega) with rfl | rfl | rfl
        · exact HR.out.l.c 0 _ rfl
        · exact HR.out.l.c 1 _ rfl
        · exact HR.out.l.c 2 _ rfl
      have HZ := Lib.hid (show idF S (N + m) = partF z S by rw [HID.out m hm3, hz])
      have cp : wr.cell? ⟨ps, 0, none⟩ = some (.int .i64 S) := (HR.out.y.bel.cell (p := ⟨ps, 0, none⟩) lps).trans HPS.out
      have lp : ps < wr.heap.size := by have := HR.out.y.bel.size; omega
      have c3 := HR.out.y.cub.c 3 _ rfl; have cf := HR.out.y.cub.f; have lc := HR.out.y.cub.lt
      have ll := HR.out.l.lt
      have hbs := HR.out.y.bel.size
      have hgb := HR.out.g
      clear hz
      go_wp2_with (first | ((with_reducible apply wpList_farith); rfl; rfl; rfl; intro _ _ _) | ((with_reducible apply wpList_up); rfl; exact Try.underlying38; exact Try.underlying172; intro _ _ _) | (at_builtin; rename_i r nn hr; have hrx : r = idF S (N + m) := (by rw [HZ.out]; refine part_exact HNN.out.1 hzS ?_; unfold partF; rw [fop_cn_left, fop_cn_right] at hr; exact hr); refine wpList_append_lies _ rfl _ _ _ rfl (V.heap.size + 1) 38 i0 (.float .f32 0) 1 4 Try.underlying25 hi0 hz0 hz1 hz2 rfl (by decide) v (N + m) (rowL (idF S) (N + m)) rfl (World.ownsRow.alloc (own_past HR.out.y.own (by (repeat (first | exact Below.refl _ _ | assumption | (refine Below.setCell ?_ (by first | (simp; done) | (simp; omega) | omega) _) | (refine Below.drew ?_) | (refine below_drewN ?_ _) | (refine Below.alloc ?_ (by first | (simp; done) | (simp; omega) | omega) _) | (refine Below.trans ?_ (Below.mono (by assumption) (by first | (simp; done) | (simp; omega) | omega))))))) _) ⟨wr.heap.size, 0, none⟩ 1 1 [.float .f32 r] rfl rfl (by intro j u hj; match j, hj with | 0, hj => (simp at hj; subst hj; simp [go_sem, Addr.add]; exact (Blk.new (wr.drewN nn) [.float .f32 r] _ wr.heap.size rfl).c 0 _ rfl)) (by intro u hu; simp at hu; subst hu; rfl) (by decide) (by unfold maxLen; omega) (by omega) (by simp [go_sem]; omega) _ rfl ?_; intro g cap w1 hown hgrow hat hlt'; obtain ⟨f4w, ffw, MS0⟩ := YR.app HR.out.y (by (repeat (first | exact Below.refl _ _ | assumption | (refine Below.setCell ?_ (by first | (simp; done) | (simp; omega) | omega) _) | (refine Below.drew ?_) | (refine below_drewN ?_ _) | (refine Below.alloc ?_ (by first | (simp; done) | (simp; omega) | omega) _) | (refine Below.trans ?_ (Below.mono (by assumption) (by first | (simp; done) | (simp; omega) | omega)))))) hown hrx hgrow; have MS := Lib.hid MS0; have lB : Blk w1 nb [.int .i64 i, .int .i64 j, .int .i64 k] := (HR.out.l.past (show Below wr.heap.size wr ((wr.drewN nn).alloc _) by (repeat (first | exact Below.refl _ _ | assumption | (refine Below.setCell ?_ (by first | (simp; done) | (simp; omega) | omega) _) | (refine Below.drew ?_) | (refine below_drewN ?_ _) | (refine Below.alloc ?_ (by first | (simp; done) | (simp; omega) | omega) _) | (refine Below.trans ?_ (Below.mono (by assumption) (by first | (simp; done) | (simp; omega) | omega))))))).block hgrow.size (hgrow.block nb (by simp [go_sem]; omega) HR.out.o); have hgn : g ≠ nb := (by rcases hat with h | h; exact fun e => HR.out.o (by rw [h, e]); simp [go_sem] at h; omega); have HLB := Lib.hid (And.intro lB hgn); clear MS0 hown hgrow hat lB hgn))
      go_roundw
      case rel =>
        exact ⟨m + 1, by omega, by go_num, _, ⟨MS.out, HLB.out.1.far _ _ (by have := HR.out.g; simp; omega), fun e => HLB.out.2 (by cases e; rfl), HR.out.g⟩⟩
      case measure => simp [intOf]; omega
    · obtain rfl : m = 3 := by omega
      go_wp2_with fail
      go_end0
      exact ⟨rfl, _, HR.out.y⟩
set_option maxRecDepth 100000 in
set_option maxHeartbeats 1600000 in
theorem IdentityOf_yes (S : Nat) (w : World) (hS : 2 ≤ S ∧ S ≤ 17) : Calls Try.prog 111 #[.int .i64 S] w fun e w' =>
    ∃ g cap : Nat, e = .returned (.agg #[.int .i64 S, .float .f32 0, .float .f32 1065353216, .slice (some ⟨g, 0, none⟩) (3 * (S * S * S)) cap]) ∧ g < w'.heap.size ∧ Row w' g 0 (3 * (S * S * S)) (idF S) ∧ Below w.heap.size w w' := by
  have hpos : 0 < S * S * S := Nat.mul_pos (Nat.mul_pos (by omega) (by omega)) (by omega)
  have HS := Lib.hid hS
  clear hS
  go_enter Try.func111, Try.ntmps111
  go_upto_region 1 with fail
  refine wp_world (fun V hV => ?_)
  have P0 : Blk V w.heap.size [.int .i64 S] := by rw [hV]; exact (Blk.new _ _ _ _ rfl).alloc _
  have Z0 : Blk V (w.heap.size + 1) [.int .i64 0, .float .f32 0, .float .f32 0, .slice none 0 0] := by rw [hV]; exact Blk.new _ _ _ _ (by simp)
  have BV : Below w.heap.size w V := by rw [hV]; (repeat (first | exact Below.refl _ _ | assumption | (refine Below.setCell ?_ (by first | (simp; done) | (simp; omega) | omega) _) | (refine Below.drew ?_) | (refine below_drewN ?_ _) | (refine Below.alloc ?_ (by first | (simp; done) | (simp; omega) | omega) _) | (refine Below.trans ?_ (Below.mono (by assumption) (by first | (simp; done) | (simp; omega) | omega)))))
  have HV := Lib.hid (And.intro P0 (And.intro Z0 BV))
  have p0 := P0.c 0 _ rfl; have pl := P0.lt
  clear hV P0 Z0 BV
  go_wp2_with fail
  refine calls_world (fun W hW => ?_)
  have Y0 : YR V W V.heap.size S 0 1065353216 (idF S) 0 (.slice none 0 0) := by rw [hW]; exact ⟨Blk.new _ _ _ _ rfl, World.ownsRow_nil _ _ _ _, by (repeat (first | exact Below.refl _ _ | assumption | (refine Below.setCell ?_ (by first | (simp; done) | (simp; omega) | omega) _) | (refine Below.drew ?_) | (refine below_drewN ?_ _) | (refine Below.alloc ?_ (by first | (simp; done) | (simp; omega) | omega) _) | (refine Below.trans ?_ (Below.mono (by assumption) (by first | (simp; done) | (simp; omega) | omega))))), Nat.le_refl _⟩
  have HY0 := Lib.hid Y0
  clear hW Y0 p0 pl
  refine (Places_any 180 #[.pointer (some ⟨V.heap.size, 0, none⟩), .pointer (some ⟨w.heap.size, 0, none⟩)] S (fun n wr => ∃ s, YR V wr V.heap.size S 0 1065353216 (idF S) (3 * n) s) W HS.out.2 (by have := HS.out.1; omega) (body_enters Try.func180 (by kernel_rfl) rfl) ⟨_, HY0.out⟩ (fun n a b ⟨s, h1⟩ hb => ⟨s, h1.past hb⟩) (fun n w' hn ⟨s, h1⟩ => ?_)).mono ?_
  · obtain ⟨e1, e2, e3, e4⟩ := enI_of (by have := HS.out.1; omega) hn
    exact IdentityOf_c S (n % S) (n / S % S) (n / S / S) w.heap.size V w' s HS.out e1 e2 e3 (by rw [e4]; exact h1) (HV.out.1.c 0 _ rfl) (.int .i64 (n : Nat)) |>.mono (fun e w'' ⟨h1, s', h2⟩ => ⟨h1, s', by rw [e4] at h2; exact h2⟩)
  rintro e w3 ⟨rfl, s, M⟩
  have HM := Lib.hid M; clear M HY0
  obtain ⟨g, cap, rfl, hg1, hg2, hg3, hg4⟩ := own_form HM.out.own (by omega)
  have hcells := HM.out.own.cells (g := g) rfl
  have HC := Lib.hid hcells
  have Z3 := HV.out.2.1.below HM.out.bel HV.out.2.1.lt
  have B3 := HV.out.2.2.trans (HM.out.bel.mono HV.out.2.2.size)
  have c0 := HM.out.cub.c 0 _ rfl; have c1 := HM.out.cub.c 1 _ rfl; have c2 := HM.out.cub.c 2 _ rfl; have c3 := HM.out.cub.c 3 _ rfl; have cl := HM.out.cub.lt
  have z0 := Z3.c 0 _ rfl; have z1 := Z3.c 1 _ rfl; have z2 := Z3.c 2 _ rfl; have z3 := Z3.c 3 _ rfl; have zf := Z3.f; have zl := Z3.lt
  have hgz : w.heap.size + 1 ≠ g := by have := HV.out.2.1.lt; omega
  have HB3 := Lib.hid (And.intro B3 hgz)
  clear hcells Z3 B3 hgz hg1
  go_wp2_with fail
  refine bodyPost_ret (v := .agg #[.int .i64 S, .float .f32 0, .float .f32 1065353216, .slice (some ⟨g, 0, none⟩) (3 * (S * S * S)) cap]) (by simp [results, Try.results111, go_sem, z0, z1, z2, z3]) rfl ⟨g, cap, rfl, by simpa [World.setCell] using hg2, fun x hx => ?_, ?_⟩
  · have h := HC.out x (.float .f32 (idF S x)) (by simp [rowL, hx])
    rw [Go.WideShapes.add_plain] at h
    rw [Nat.zero_add] at h ⊢
    rw [← h]
    have hgz := HB3.out.2
    simp only [World.cell?_setCell_other _ _ _ _ (show (⟨w.heap.size + 1, _, none⟩ : Addr) ≠ ⟨g, x, none⟩ from fun e => hgz (congrArg Addr.block e))]
  · have B3 := HB3.out.1
    exact (((B3.setCell (by first | (simp; done) | (simp; omega) | omega) _).setCell (by first | (simp; done) | (simp; omega) | omega) _).setCell (by first | (simp; done) | (simp; omega) | omega) _).setCell (by first | (simp; done) | (simp; omega) | omega) _
set_option maxHeartbeats 800000 in
theorem Identity_no (T : Int) (w : World) (hT : ¬ (2 ≤ T ∧ T ≤ 17)) : Calls Try.prog 110 #[.int .i64 T] w fun e w' => e = .returned (.tuple #[.agg #[.int .i64 0, .float .f32 0, .float .f32 0, .slice none 0 0], .int .i64 3]) ∧ Below w.heap.size w w' := by
  rcases (show T < 2 ∨ 17 < T by omega) with h | h
  · clear hT
    go_enter Try.func110, Try.ntmps110
    go_wp2_with fail
    refine bodyPost_ret (v := .tuple #[.agg #[.int .i64 0, .float .f32 0, .float .f32 0, .slice none 0 0], .int .i64 3]) (by simp [results, Try.results110, go_sem]) rfl ⟨rfl, ?_⟩
    (repeat (first | exact Below.refl _ _ | assumption | (refine Below.setCell ?_ (by first | (simp; done) | (simp; omega) | omega) _) | (refine Below.drew ?_) | (refine below_drewN ?_ _) | (refine Below.alloc ?_ (by first | (simp; done) | (simp; omega) | omega) _) | (refine Below.trans ?_ (Below.mono (by assumption) (by first | (simp; done) | (simp; omega) | omega)))))
  · have h2 : ¬ T < 2 := by omega
    clear hT
    go_enter Try.func110, Try.ntmps110
    go_wp2_with fail
    refine bodyPost_ret (v := .tuple #[.agg #[.int .i64 0, .float .f32 0, .float .f32 0, .slice none 0 0], .int .i64 3]) (by simp [results, Try.results110, go_sem]) rfl ⟨rfl, ?_⟩
    (repeat (first | exact Below.refl _ _ | assumption | (refine Below.setCell ?_ (by first | (simp; done) | (simp; omega) | omega) _) | (refine Below.drew ?_) | (refine below_drewN ?_ _) | (refine Below.alloc ?_ (by first | (simp; done) | (simp; omega) | omega) _) | (refine Below.trans ?_ (Below.mono (by assumption) (by first | (simp; done) | (simp; omega) | omega)))))
end Go.Proofs.Ytkmjboffjhcoaaa

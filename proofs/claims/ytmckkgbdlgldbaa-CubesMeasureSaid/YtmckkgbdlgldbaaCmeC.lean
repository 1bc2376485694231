/- The greatest difference of two cubes: cube.Apart, dyeref2.CubesApart. Conditions: what each theorem names. -/
import Derived.Test.YtmckkgbdlgldbaaCmeB
namespace Go.Proofs.Ytmckkgbdlgldbaa
open Go Go.RowKit
/-- The greatest of the first numbers. -/
def mostF (g : Nat → Nat) : Nat → Nat
  | 0 => 0
  | k + 1 => Nat.max (mostF g k) (g k)
theorem mostF_le {g : Nat → Nat} {M : Nat} (h : ∀ i, g i ≤ M) : ∀ k, mostF g k ≤ M := by
  intro k
  induction k with
  | zero => exact Nat.zero_le _
  | succ k ih => exact Nat.max_le.2 ⟨ih, h k⟩
theorem mostF_lt (g : Nat → Nat) (k : Nat) (h : mostF g k < g k) : mostF g (k + 1) = g k := Nat.max_eq_right (by omega)
theorem mostF_ge (g : Nat → Nat) (k : Nat) (h : g k ≤ mostF g k) : mostF g (k + 1) = mostF g k := Nat.max_eq_left h
theorem ord_pos {x y : Nat} (hx : x ≤ 2139095040) (hy : y ≤ 2139095040) : (FloatKind.f32.format.order x y == some .gt) = decide (y < x) := by
  rw [ord_of (num_pos hx) (num_pos hy), key_pos hx, key_pos hy]
  by_cases h : y < x
  · have : compare (x : Int) (y : Int) = .gt := by rw [Int.compare_eq_gt]; omega
    rw [this]; simp [h]
  · rcases (show x < y ∨ x = y by omega) with h1 | h1
    · have : compare (x : Int) (y : Int) = .lt := by rw [Int.compare_eq_lt]; omega
      rw [this]; simp [h]
    · have : compare (x : Int) (y : Int) = .eq := by rw [Int.compare_eq_eq]; omega
      rw [this]; simp [h]
def GapPsi (_ : FuncId) (args : Array Value) (u : Value) : Prop := ∃ r, u = .float .f32 r ∧ GapR (argF args 0) (argF args 1) r
set_option maxRecDepth 100000 in
set_option maxHeartbeats 3200000 in
theorem Apart_yes (S S' : Int) (lo hi lo' hi' b off n cap b' off' cap' : Nat) (fa fb : Nat → Nat) (w : World) (h0 : bothE (cubErr S lo hi n) (cubErr S' lo' hi' n) (confB S S' lo lo' hi hi') = 0) (hn0 : 0 < n) (hn : n ≤ 14739) (hc : Row w b off n fa) (hd : Row w b' off' n fb) :
    Calls Try.prog 57 #[.agg #[.int .i64 S, .float .f32 lo, .float .f32 hi, .slice (some ⟨b, off, none⟩) n cap], .agg #[.int .i64 S', .float .f32 lo', .float .f32 hi', .slice (some ⟨b', off', none⟩) n cap']] w fun e w' =>
      e = .returned (.tuple #[.float .f32 (mostF (fun i => gapF (fa i) (fb i)) n), .int .i64 0]) ∧ Below w.heap.size w w' := by
  have hbw : b < w.heap.size := hc.lt hn0
  have hbw' : b' < w.heap.size := hd.lt hn0
  have HC := Lib.hid (fun (w' : World) (hb : Below w.heap.size w w') => And.intro (hc.below hb hbw) (hd.below hb hbw') : ∀ w', Below w.heap.size w w' → _); have H0 := Lib.hid h0
  obtain ⟨G, hG⟩ : ∃ G, G = (fun i => gapF (fa i) (fb i)) := ⟨_, rfl⟩
  rw [← hG]
  have HG := Lib.hid (And.intro hG (fun k => mostF_le (by intro i; rw [hG]; exact gapF_le _ _) k : ∀ k, mostF G k ≤ 2139095040))
  clear h0 hc hd hn0 hbw hbw' hG
  go_enter Try.func57, Try.ntmps57
  go_upto_region 1 with fail
  refine wp_world (fun W hW => ?_)
  have R0 : EbR w W [.int .i64 S, .float .f32 lo, .float .f32 hi, .slice (some ⟨b, off, none⟩) n cap] [.int .i64 S', .float .f32 lo', .float .f32 hi', .slice (some ⟨b', off', none⟩) n cap'] := by rw [hW]; exact ⟨(Blk.new _ _ _ _ rfl).alloc _, Blk.new _ _ _ _ (by simp), by (repeat (first | exact Below.refl _ _ | assumption | (refine Below.setCell ?_ (by first | (simp; done) | (simp; omega) | omega) _) | (refine Below.drew ?_) | (refine below_drewN ?_ _) | (refine Below.alloc ?_ (by first | (simp; done) | (simp; omega) | omega) _) | (refine Below.trans ?_ (Below.mono (by assumption) (by first | (simp; done) | (simp; omega) | omega)))))⟩
  have HR0 := Lib.hid R0
  have p0 := R0.a.c 0 _ rfl; have p1 := R0.a.c 1 _ rfl; have p2 := R0.a.c 2 _ rfl; have p3 := R0.a.c 3 _ rfl; have pl := R0.a.lt
  have q0 := R0.b.c 0 _ rfl; have q1 := R0.b.c 1 _ rfl; have q2 := R0.b.c 2 _ rfl; have q3 := R0.b.c 3 _ rfl; have ql := R0.b.lt
  clear hW R0
  go_wp2_with fail
  refine (checkBoth_any _ _ _ _ _ _ _ _ _ _ _ _ _).mono ?_
  rintro e w2 ⟨rfl, hb2⟩
  rw [H0.out]
  have HR2 := Lib.hid (HR0.out.past hb2)
  clear p0 p1 p2 p3 pl q0 q1 q2 q3 ql hb2 HR0
  have p3 := HR2.out.a.c 3 _ rfl; have pl := HR2.out.a.lt
  go_wp2_with fail
  clear p3 pl
  go_loopw [7, 18] (fun s7 s18 wr => ∃ k : Nat, k ≤ n ∧ s18 = .int .i64 k ∧ s7 = .float .f32 (mostF G k) ∧ EbR w wr [.int .i64 S, .float .f32 lo, .float .f32 hi, .slice (some ⟨b, off, none⟩) n cap] [.int .i64 S', .float .f32 lo', .float .f32 hi', .slice (some ⟨b', off', none⟩) n cap']) (fun _ s18 _ => n - (intOf s18).toNat)
  case atStart => exact ⟨0, Nat.zero_le _, rfl, rfl, HR2.out⟩
  case round =>
    obtain ⟨k, hk, rfl, rfl, hR⟩ := hrel
    have HR := Lib.hid hR
    clear HR2
    by_cases hkn : k < n
    · have C := HC.out _ hR.w
      have c0 := C.1 k hkn; have c1 := C.2 k hkn
      obtain ⟨va, hva⟩ : ∃ z, z = fa k := ⟨_, rfl⟩
      obtain ⟨vb, hvb⟩ : ∃ z, z = fb k := ⟨_, rfl⟩
      rw [← hva] at c0; rw [← hvb] at c1
      obtain ⟨x, hx⟩ : ∃ x, x = mostF G k := ⟨_, rfl⟩
      have hxM : x ≤ 2139095040 := by rw [hx]; exact HG.out.2 k
      rw [← hx]
      have HX := Lib.hid (show Nat.max x (gapF va vb) = mostF G (k + 1) by rw [hx, hva, hvb, HG.out.1]; rfl)
      have p3 := hR.a.c 3 _ rfl; have pl := hR.a.lt
      have q3 := hR.b.c 3 _ rfl; have ql := hR.b.lt
      have l0 := cell_lt c0; have l1 := cell_lt c1
      simp only at l0 l1
      have hkn' : (k : Int) < (n : Int) := by omega
      clear hva hvb hx hR C
      go_upto_region 8 with fail
      refine wp_region_loose 12 GapPsi (by kernel_rfl) (by kernel_rfl) ?_
      simp only [List.take_succ_cons, List.take_zero, List.drop_succ_cons, List.drop_zero]
      iterate 11 (refine loose_wanted rfl (fun K hK => ?_); go_simp; refine hK _ ?_; clear hK K)
      refine loose_wanted rfl (fun K1 hK => ?_)
      go_simp
      refine ⟨fun p => (gap_any _ _ p.w).mono ?_, ?_⟩
      · rintro e w' ⟨⟨r, rfl, hr⟩, m, rfl⟩
        exact ⟨_, rfl, ⟨r, rfl, hr⟩, below_drewN p.h m⟩
      rintro u ⟨r, rfl, hr⟩
      refine hK _ ?_
      clear hK K1
      refine loose_nil (fun w5 hb5 => ?_)
      have HR5 := Lib.hid (HR.out.past hb5)
      have hm := fun ts t w => run_max_gap (P := Try.prog) hr hxM ts t w
      clear hb5 c0 c1 p3 pl q3 ql l0 l1 HR
      go_wp2_with fail
      go_roundw
      case rel => exact ⟨k + 1, by omega, by go_num, by rw [HX.out], HR5.out⟩
      case measure => simp [intOf]; omega
    · obtain rfl : k = n := by omega
      have hkk : ¬ (k : Int) < (k : Int) := by omega
      clear hR
      go_wp2_with fail
      refine bodyPost_ret (v := .tuple #[.float .f32 (mostF G k), .int .i64 0]) (by simp [results, Try.results57, go_sem]) rfl ⟨rfl, HR.out.w⟩
set_option maxHeartbeats 800000 in
theorem Apart_no (sa : Int) (la ha : Nat) (aa : Option Addr) (na ca : Nat) (sb : Int) (lb hb : Nat) (ab : Option Addr) (nb cb : Nat) (w : World) (hE : bothE (cubErr sa la ha na) (cubErr sb lb hb nb) (confB sa sb la lb ha hb) ≠ 0) :
    Calls Try.prog 57 #[.agg #[.int .i64 sa, .float .f32 la, .float .f32 ha, .slice aa na ca], .agg #[.int .i64 sb, .float .f32 lb, .float .f32 hb, .slice ab nb cb]] w fun e w' => e = .returned (.tuple #[.float .f32 0, .int .i64 (bothE (cubErr sa la ha na) (cubErr sb lb hb nb) (confB sa sb la lb ha hb))]) ∧ Below w.heap.size w w' := by
  obtain ⟨EA, hEA⟩ : ∃ E, E = bothE (cubErr sa la ha na) (cubErr sb lb hb nb) (confB sa sb la lb ha hb) := ⟨_, rfl⟩
  rw [← hEA] at hE ⊢
  have hc : (EA != 0) = true := by simpa using hE
  have HEA := Lib.hid hEA
  clear hEA hE
  go_enter Try.func57, Try.ntmps57
  go_wp2_with (first | (go_at_call 145; refine (checkBoth_any _ _ _ _ _ _ _ _ _ _ _ _ _).mono ?_; rintro e w2 ⟨rfl, hb2⟩; rw [← HEA.out]; have hs2 := hb2.size))
  refine bodyPost_ret (v := .tuple #[.float .f32 0, .int .i64 EA]) (by simp [results, Try.results57, go_sem]) rfl ⟨rfl, ?_⟩
  (repeat (first | exact Below.refl _ _ | assumption | (refine Below.setCell ?_ (by first | (simp; done) | (simp; omega) | omega) _) | (refine Below.drew ?_) | (refine below_drewN ?_ _) | (refine Below.alloc ?_ (by first | (simp; done) | (simp; omega) | omega) _) | (refine Below.trans ?_ (Below.mono (by assumption) (by first | (simp; done) | (simp; omega) | omega)))))
set_option maxRecDepth 100000 in
set_option maxHeartbeats 3200000 in
theorem CubesApart_yes (S S' : Int) (lo hi lo' hi' b off n cap b' off' cap' : Nat) (fa fb : Nat → Nat) (w : World) (hn0 : 0 < n) (hn : n ≤ 14739) (hc : Row w b off n fa) (hd : Row w b' off' n fb) :
    Calls Try.prog 60 #[.agg #[.int .i64 S, .float .f32 lo, .float .f32 hi, .slice (some ⟨b, off, none⟩) n cap], .agg #[.int .i64 S', .float .f32 lo', .float .f32 hi', .slice (some ⟨b', off', none⟩) n cap']] w fun e w' =>
      e = .returned (.float .f32 (mostF (fun i => gapF (fa i) (fb i)) n)) ∧ Below w.heap.size w w' := by
  have hbw : b < w.heap.size := hc.lt hn0
  have hbw' : b' < w.heap.size := hd.lt hn0
  have HC := Lib.hid (fun (w' : World) (hb : Below w.heap.size w w') => And.intro (hc.below hb hbw) (hd.below hb hbw') : ∀ w', Below w.heap.size w w' → _)
  obtain ⟨G, hG⟩ : ∃ G, G = (fun i => gapF (fa i) (fb i)) := ⟨_, rfl⟩
  rw [← hG]
  have HG := Lib.hid (And.intro hG (fun k => mostF_le (by intro i; rw [hG]; exact gapF_le _ _) k : ∀ k, mostF G k ≤ 2139095040))
  clear hc hd hn0 hbw hbw' hG
  go_enter Try.func60, Try.ntmps60
  go_upto_region 1 with fail
  refine wp_world (fun W hW => ?_)
  have R0 : EbR w W [.int .i64 S, .float .f32 lo, .float .f32 hi, .slice (some ⟨b, off, none⟩) n cap] [.int .i64 S', .float .f32 lo', .float .f32 hi', .slice (some ⟨b', off', none⟩) n cap'] := by rw [hW]; exact ⟨(Blk.new _ _ _ _ rfl).alloc _, Blk.new _ _ _ _ (by simp), by (repeat (first | exact Below.refl _ _ | assumption | (refine Below.setCell ?_ (by first | (simp; done) | (simp; omega) | omega) _) | (refine Below.drew ?_) | (refine below_drewN ?_ _) | (refine Below.alloc ?_ (by first | (simp; done) | (simp; omega) | omega) _) | (refine Below.trans ?_ (Below.mono (by assumption) (by first | (simp; done) | (simp; omega) | omega)))))⟩
  have HR0 := Lib.hid R0
  have p3 := R0.a.c 3 _ rfl; have pl := R0.a.lt
  clear hW R0
  go_wp2_with fail
  clear p3 pl
  go_loopw [5, 11] (fun s5 s11 wr => ∃ k : Nat, k ≤ n ∧ s11 = .int .i64 k ∧ s5 = .float .f32 (mostF G k) ∧ EbR w wr [.int .i64 S, .float .f32 lo, .float .f32 hi, .slice (some ⟨b, off, none⟩) n cap] [.int .i64 S', .float .f32 lo', .float .f32 hi', .slice (some ⟨b', off', none⟩) n cap']) (fun _ s11 _ => n - (intOf s11).toNat)
  case atStart => exact ⟨0, Nat.zero_le _, rfl, rfl, HR0.out⟩
  case round =>
    obtain ⟨k, hk, rfl, rfl, hR⟩ := hrel
    have HR := Lib.hid hR
    clear HR0
    by_cases hkn : k < n
    · have C := HC.out _ hR.w
      have c0 := C.1 k hkn; have c1 := C.2 k hkn
      obtain ⟨va, hva⟩ : ∃ z, z = fa k := ⟨_, rfl⟩
      obtain ⟨vb, hvb⟩ : ∃ z, z = fb k := ⟨_, rfl⟩
      rw [← hva] at c0; rw [← hvb] at c1
      obtain ⟨x, hx⟩ : ∃ x, x = mostF G k := ⟨_, rfl⟩
      have hxM : x ≤ 2139095040 := by rw [hx]; exact HG.out.2 k
      rw [← hx]
      have hq : gapF va vb = G k := by rw [hva, hvb, HG.out.1]
      have HX := Lib.hid (And.intro (fun h => by rw [hq] at h ⊢; exact mostF_lt G k (by omega) : x < gapF va vb → mostF G (k + 1) = gapF va vb) (fun h => by rw [hq] at h; rw [hx]; exact mostF_ge G k (by omega) : gapF va vb ≤ x → mostF G (k + 1) = x))
      have p3 := hR.a.c 3 _ rfl; have pl := hR.a.lt
      have q3 := hR.b.c 3 _ rfl; have ql := hR.b.lt
      have l0 := cell_lt c0; have l1 := cell_lt c1
      simp only at l0 l1
      have hkn' : (k : Int) < (n : Int) := by omega
      clear hva hvb hx hR C hq
      go_upto_region 5 with fail
      refine wp_region_loose 11 (fun _ args u => u = .float .f32 (gapF (argF args 0) (argF args 1))) (by kernel_rfl) (by kernel_rfl) ?_
      simp only [List.take_succ_cons, List.take_zero, List.drop_succ_cons, List.drop_zero]
      iterate 10 (refine loose_wanted rfl (fun K hK => ?_); go_simp; refine hK _ ?_; clear hK K)
      refine loose_wanted rfl (fun K1 hK => ?_)
      go_simp
      refine ⟨fun p => (gapOf_any _ _ p.w).mono ?_, ?_⟩
      · rintro e w' ⟨rfl, m, rfl⟩
        exact ⟨_, rfl, by first | rfl | simp, below_drewN p.h m⟩
      refine hK _ ?_
      clear hK K1
      refine loose_nil (fun w5 hb5 => ?_)
      have HR5 := Lib.hid (HR.out.past hb5)
      clear hb5 c0 c1 p3 pl q3 ql l0 l1 HR
      have ho := ord_pos (gapF_le va vb) hxM
      by_cases hl : x < gapF va vb
      · rw [decide_eq_true hl] at ho
        have HY := Lib.hid (HX.out.1 hl)
        go_wp2_with fail
        go_roundw
        case rel => exact ⟨k + 1, by omega, by go_num, by rw [HY.out], HR5.out⟩
        case measure => simp [intOf]; omega
      · rw [decide_eq_false hl] at ho
        have HY := Lib.hid (HX.out.2 (by omega))
        go_wp2_with fail
        go_roundw
        case rel => exact ⟨k + 1, by omega, by go_num, by rw [HY.out], HR5.out⟩
        case measure => simp [intOf]; omega
    · obtain rfl : k = n := by omega
      have hkk : ¬ (k : Int) < (k : Int) := by omega
      clear hR
      go_wp2_with fail
      go_ret
      exact ⟨rfl, HR.out.w⟩
end Go.Proofs.Ytmckkgbdlgldbaa

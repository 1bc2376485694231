/- Grain of a pixel: finish.grained. Conditions: a right size; places of 64 bits. -/
import Derived.Test.YtmnmcmmhnbnndaaGrD
namespace Go.Proofs.Ytmnmcmmhnbnndaa
open Go.RowKit
/-- The channel whose noise is taken. -/
def chanZ (mono : Bool) (c : Int) : Int := if mono then 0 else c
def FdPsi (size : Int) (args : Array Value) (u : Value) : Prop := ∃ a : Int, args = #[.int .i64 a, .int .i64 size] ∧ u = .int .i64 (a / size)
theorem fd_own {size a : Int} {u : Value} (h : FdPsi size #[.int .i64 a, .int .i64 size] u) : u = .int .i64 (a / size) := by
  obtain ⟨b, h1, rfl⟩ := h
  simp at h1; rw [h1]
set_option maxRecDepth 100000 in
set_option maxHeartbeats 1600000 in
/-- finish.grained, where the place is right. -/
theorem grained_any (seed size : Int) (s f : Nat) (mono : Bool) (num x y : Int) (p0 p1 p2 p3 : Nat) (w : World) (hs : 1 ≤ size ∧ size ≤ 16) (hx : -9223372036854775808 ≤ x ∧ x ≤ 9223372036854775807) (hy : -9223372036854775808 ≤ y ∧ y ≤ 9223372036854775807)
    (h0 : p0 < 2 ^ FloatKind.f32.format.width) (h1 : p1 < 2 ^ FloatKind.f32.format.width) (h2 : p2 < 2 ^ FloatKind.f32.format.width) :
    Calls Try.prog 170 #[.agg #[.int .u32 seed, .int .i64 size, .float .f32 s, .float .f32 f, .bool mono], .int .i64 num, .int .i64 x, .int .i64 y, .agg #[.float .f32 p0, .float .f32 p1, .float .f32 p2, .float .f32 p3]] w fun e w' =>
      e = .returned (.agg #[.float .f32 (grnF (bits .xor .u32 seed (num % 4294967296)) (x / size) (y / size) (chanZ mono 0) s f p0), .float .f32 (grnF (bits .xor .u32 seed (num % 4294967296)) (x / size) (y / size) (chanZ mono 1) s f p1), .float .f32 (grnF (bits .xor .u32 seed (num % 4294967296)) (x / size) (y / size) (chanZ mono 2) s f p2), .float .f32 (cn .f32 p3)]) ∧ Below w.heap.size w w' := by
  have hs' := Lib.hid hs; have hx' := Lib.hid hx; have hy' := Lib.hid hy; have h0' := Lib.hid h0; have h1' := Lib.hid h1; have h2' := Lib.hid h2
  clear hs hx hy h0 h1 h2
  go_enter Try.func170, Try.ntmps170
  go_wp2_with fail
  obtain ⟨W, hW⟩ : ∃ W, W = (((w.alloc (.cells #[.int .u32 seed, .int .i64 size, .float .f32 s, .float .f32 f, .bool mono] 113)).alloc (.cells #[.int .i64 num] 3)).alloc (.cells #[.float .f32 p0, .float .f32 p1, .float .f32 p2, .float .f32 p3] 55)).alloc (.cells #[.float .f32 0, .float .f32 0, .float .f32 0, .float .f32 0] 55) := ⟨_, rfl⟩
  have c0 : W.cell? ⟨w.heap.size, 0, none⟩ = some (.int .u32 seed) := by rw [hW]; simp [go_sem]
  have c1 : W.cell? ⟨w.heap.size, 1, none⟩ = some (.int .i64 size) := by rw [hW]; simp [go_sem]
  have c2 : W.cell? ⟨w.heap.size, 2, none⟩ = some (.float .f32 s) := by rw [hW]; simp [go_sem]
  have c3 : W.cell? ⟨w.heap.size, 3, none⟩ = some (.float .f32 f) := by rw [hW]; simp [go_sem]
  have c4 : W.cell? ⟨w.heap.size, 4, none⟩ = some (.bool mono) := by rw [hW]; simp [go_sem]
  have n0 : W.cell? ⟨w.heap.size + 1, 0, none⟩ = some (.int .i64 num) := by rw [hW]; simp [go_sem]
  have P0 : Pix4 W (w.heap.size + 1 + 1) p0 p1 p2 p3 := by rw [hW]; exact ⟨by simp [go_sem], by simp [go_sem], by simp [go_sem], by simp [go_sem], fun o => by simp [go_sem]⟩
  have R0 : Pix4 W (w.heap.size + 1 + 1 + 1) 0 0 0 0 := by rw [hW]; exact ⟨by simp [go_sem], by simp [go_sem], by simp [go_sem], by simp [go_sem], fun o => by simp [go_sem]⟩
  have B0 : Below w.heap.size w W := by rw [hW]; (repeat (first | exact Below.refl _ _ | assumption | (refine Below.setCell ?_ (by first | (simp; done) | (simp; omega) | omega) _) | (refine Below.drew ?_) | (refine below_drewN ?_ _) | (refine Below.alloc ?_ (by first | (simp; done) | (simp; omega) | omega) _) | (refine Below.trans ?_ (Below.mono (by assumption) (by first | (simp; done) | (simp; omega) | omega)))))
  have sW : W.heap.size = w.heap.size + 1 + 1 + 1 + 1 := by rw [hW]; simp
  rw [← hW]
  clear hW
  have CC := Lib.hid (And.intro c0 (And.intro c2 (And.intro c3 (And.intro c4 n0))))
  have PP := Lib.hid P0; have RR := Lib.hid R0
  have w0 : w.heap.size < W.heap.size := by omega
  have SW := Lib.hid sW; clear sW
  clear c0 c2 c3 c4 n0 P0 R0
  refine wp_region_looseM 10 (fun _ args u => FdPsi size args u) [(8, 11, .cells #[.int .i64 0] 3), (9, 12, .cells #[.int .i64 0] 3)] (by kernel_rfl) (by kernel_rfl) (by kernel_rfl) (by intro m hm; simp at hm; rcases hm with rfl | rfl <;> exact ⟨_, rfl, ⟨rfl, rfl, fun ev w => by kernel_rfl⟩⟩) (by intro m hm; simp at hm; rcases hm with rfl | rfl <;> exact of_decide_eq_true (by kernel_rfl)) ?_
  simp only [List.take_succ_cons, List.take_zero, List.drop_succ_cons, List.drop_zero]
  iterate 3 (refine looseM_wanted rfl (fun K hK => ?_); go_simp; refine hK _ ?_; clear hK K)
  refine looseM_wanted rfl (fun K1 hK => ?_)
  go_simp
  refine ⟨fun p => (floorDiv_any _ _ p.w hx'.out hs'.out).mono ?_, ?_⟩
  · rintro e w' ⟨rfl, rfl⟩
    exact ⟨_, rfl, ⟨_, rfl, rfl⟩, Below.refl _ _⟩
  intro u hu
  obtain rfl := fd_own hu
  refine hK _ ?_
  clear hK K1 hu
  iterate 3 (refine looseM_wanted rfl (fun K hK => ?_); go_simp; refine hK _ ?_; clear hK K)
  refine looseM_wanted rfl (fun K1 hK => ?_)
  go_simp
  refine ⟨fun p => (floorDiv_any _ _ p.w hy'.out hs'.out).mono ?_, ?_⟩
  · rintro e w' ⟨rfl, rfl⟩
    exact ⟨_, rfl, ⟨_, rfl, rfl⟩, Below.refl _ _⟩
  intro u hu
  obtain rfl := fd_own hu
  refine hK _ ?_
  clear hK K1 hu
  refine looseM_lays (d := 11) (blk := .cells #[.int .i64 0] 3) ⟨rfl, rfl, fun ev w => by kernel_rfl⟩ (fun ga hga => ?_)
  refine looseM_lays (d := 12) (blk := .cells #[.int .i64 0] 3) ⟨rfl, rfl, fun ev w => by kernel_rfl⟩ (fun gb hgb => ?_)
  refine looseM_nil (fun w2 hb2 hg2 hne2 => ?_)
  obtain ⟨ga', e1, hA⟩ := hg2 _ (List.Mem.head _)
  obtain rfl : ga = ga' := by cases e1; rfl
  obtain ⟨gb', e2, hB⟩ := hg2 _ (List.Mem.tail _ (List.Mem.head _))
  obtain rfl : gb = gb' := by cases e2; rfl
  have hab : gb ≠ ga := fun h => hne2 _ (List.Mem.head _) _ (List.Mem.tail _ (List.Mem.head _)) (by decide) (by rw [e1, e2, h])
  clear hg2 hne2 e1 e2
  have A0 : w2.cell? ⟨ga, 0, none⟩ = some (.int .i64 0) := by simp [World.cell?, hA]
  have A1 : w2.frozen? ⟨ga, 0, none⟩ = false := by simp [World.frozen?, hA]
  have B1 : w2.cell? ⟨gb, 0, none⟩ = some (.int .i64 0) := by simp [World.cell?, hB]
  have B2 : w2.frozen? ⟨gb, 0, none⟩ = false := by simp [World.frozen?, hB]
  have sW := SW.out
  have P2 := PP.out.below hb2 (by omega)
  have R2 := RR.out.below hb2 (by omega)
  have BB := Lib.hid (B0.trans (hb2.mono (by omega)))
  obtain ⟨c0, c2, c3, c4, n0⟩ := CC.out
  have D0 := (hb2.cell (p := ⟨w.heap.size, 0, none⟩) w0).trans c0
  have D2 := (hb2.cell (p := ⟨w.heap.size, 2, none⟩) w0).trans c2
  have D3 := (hb2.cell (p := ⟨w.heap.size, 3, none⟩) w0).trans c3
  have D4 := (hb2.cell (p := ⟨w.heap.size, 4, none⟩) w0).trans c4
  have E0 := (hb2.cell (p := ⟨w.heap.size + 1, 0, none⟩) (by show w.heap.size + 1 < _; omega)).trans n0
  have DD := Lib.hid (And.intro D0 (And.intro D2 (And.intro D3 (And.intro D4 E0))))
  have hs2 := hb2.size
  clear c0 c1 c2 c3 c4 n0 D0 D2 D3 D4 E0 hb2 CC PP RR B0 hA hB
  have PP := Lib.hid P2; have RR := Lib.hid R2
  obtain ⟨p0', p1', p2', p3', -⟩ := P2
  clear R2
  go_wp2_with fail
  obtain ⟨W3, hW3⟩ : ∃ W3, W3 = (w2.setCell ⟨ga, 0, none⟩ (.int .i64 (x / size))).setCell ⟨gb, 0, none⟩ (.int .i64 (y / size)) := ⟨_, rfl⟩
  rw [← hW3]
  have s3 : W3.heap.size = w2.heap.size := by rw [hW3]; simp
  have F : ∀ n o, n < W.heap.size → W3.cell? ⟨n, o, none⟩ = w2.cell? ⟨n, o, none⟩ := fun n o hn => by
    rw [hW3, World.cell?_setCell_other _ _ _ _ (by first | (simp; done) | (simp; omega) | omega), World.cell?_setCell_other _ _ _ _ (by first | (simp; done) | (simp; omega) | omega)]
  obtain ⟨D0, D2, D3, D4, E0⟩ := DD.out
  have g0 := (F w.heap.size 0 w0).trans D0
  have g2 := (F w.heap.size 2 w0).trans D2
  have g3 := (F w.heap.size 3 w0).trans D3
  have g4 := (F w.heap.size 4 w0).trans D4
  have gn := (F (w.heap.size + 1) 0 (by omega)).trans E0
  have gga : W3.cell? ⟨ga, 0, none⟩ = some (.int .i64 (x / size)) := by rw [hW3, World.cell?_setCell_other _ _ _ _ (by first | (simp; done) | (simp; omega) | omega)]; exact World.cell?_setCell_same _ _ _ A0
  have ggb : W3.cell? ⟨gb, 0, none⟩ = some (.int .i64 (y / size)) := by rw [hW3]; exact World.cell?_setCell_same _ _ _ (by rw [World.cell?_setCell_other _ _ _ _ (by first | (simp; done) | (simp; omega) | omega)]; exact B1)
  have R3 : Pix4 W3 (w.heap.size + 1 + 1 + 1) 0 0 0 0 := by rw [hW3]; exact (RR.out.far _ _ (by first | (simp; done) | (simp; omega) | omega)).far _ _ (by first | (simp; done) | (simp; omega) | omega)
  have B3 : Below w.heap.size w W3 := by rw [hW3]; exact (BB.out.setCell (by first | (simp; done) | (simp; omega) | omega) _).setCell (by first | (simp; done) | (simp; omega) | omega) _
  have la := cell_lt gga
  have lb := cell_lt ggb
  simp only at la lb
  clear hW3 DD D0 D2 D3 D4 E0 A0 A1 B1 B2 RR PP p0' p1' p2' p3' F
  refine (three_any _ _ (fun c v => grnF (bits .xor .u32 seed (num % 4294967296)) (x / size) (y / size) (chanZ mono c) s f v) p0 p1 p2 p3 _ h0'.out h1'.out h2'.out (body_enters Try.func200 (by kernel_rfl) rfl) (fun c v w' hb' hv => ?_)).mono ?_
  · refine (grained1_walk seed s f mono num (x / size) (y / size) w.heap.size (w.heap.size + 1) ga gb c v w' ((hb'.cell (p := ⟨w.heap.size, 0, none⟩) (by show w.heap.size < _; omega)).trans g0) ((hb'.cell (p := ⟨w.heap.size, 2, none⟩) (by show w.heap.size < _; omega)).trans g2) ((hb'.cell (p := ⟨w.heap.size, 3, none⟩) (by show w.heap.size < _; omega)).trans g3) ((hb'.cell (p := ⟨w.heap.size, 4, none⟩) (by show w.heap.size < _; omega)).trans g4)
      ((hb'.cell (p := ⟨w.heap.size + 1, 0, none⟩) (by show w.heap.size + 1 < _; omega)).trans gn) ((hb'.cell (p := ⟨ga, 0, none⟩) la).trans gga) ((hb'.cell (p := ⟨gb, 0, none⟩) lb).trans ggb)).mono ?_
    rintro e w'' ⟨⟨r, rfl, hr⟩, hb⟩
    exact ⟨r, rfl, by unfold chanZ; exact hr, hb⟩
  · rintro e w4 ⟨rfl, hb4⟩
    obtain ⟨G0, hG0⟩ : ∃ G0, G0 = grnF (bits .xor .u32 seed (num % 4294967296)) (x / size) (y / size) (chanZ mono 0) s f p0 := ⟨_, rfl⟩
    rw [← hG0]
    have HG0 := Lib.hid hG0; clear hG0
    obtain ⟨G1, hG1⟩ : ∃ G1, G1 = grnF (bits .xor .u32 seed (num % 4294967296)) (x / size) (y / size) (chanZ mono 1) s f p1 := ⟨_, rfl⟩
    rw [← hG1]
    have HG1 := Lib.hid hG1; clear hG1
    obtain ⟨G2, hG2⟩ : ∃ G2, G2 = grnF (bits .xor .u32 seed (num % 4294967296)) (x / size) (y / size) (chanZ mono 2) s f p2 := ⟨_, rfl⟩
    rw [← hG2]
    have HG2 := Lib.hid hG2; clear hG2
    have R4 := R3.below hb4 (by omega)
    have B4 := B3.trans (hb4.mono (by omega))
    clear hb4 R3 B3 g0 g2 g3 g4 gn gga ggb
    obtain ⟨d0, d1, d2, d3, df⟩ := R4
    go_wp2_with fail
    refine bodyPost_ret (v := .agg #[.float .f32 G0, .float .f32 G1, .float .f32 G2, .float .f32 (cn .f32 p3)]) (by simp [results, Try.results170, go_sem, d0, d1, d2, d3]) rfl ⟨by rw [HG0.out, HG1.out, HG2.out], ?_⟩
    exact (((B4.setCell (by first | (simp; done) | (simp; omega) | omega) _).setCell (by first | (simp; done) | (simp; omega) | omega) _).setCell (by first | (simp; done) | (simp; omega) | omega) _).setCell (by first | (simp; done) | (simp; omega) | omega) _
end Go.Proofs.Ytmnmcmmhnbnndaa

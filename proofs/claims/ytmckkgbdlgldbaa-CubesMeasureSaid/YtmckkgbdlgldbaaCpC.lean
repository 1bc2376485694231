/- Two cubes: cube.checkBoth, cube.Compose. Conditions: what each theorem names. -/
import Derived.Test.YtmckkgbdlgldbaaCpB
namespace Go.Proofs.Ytmckkgbdlgldbaa
open Go Go.RowKit
/-- Two cubes do not have one form. -/
def confB (sa sb : Int) (la lb ha hb : Nat) : Bool := !(decide (sa = sb)) || (FloatKind.f32.format.order la lb != some .eq) || (FloatKind.f32.format.order ha hb != some .eq)
def bothE (ea eb : Int) (c : Bool) : Int := firstE (firstE ea eb) (whenE c 12)
theorem two_0 (x0 x1 x2 x3 y0 y1 y2 y3 : Value) (w : World) : (Instr.index 191 (.agg #[x0, x1, x2, x3, y0, y1, y2, y3]) (.int .i64 0)).run Try.prog w = .ok (.agg #[x0, x1, x2, x3]) w := by kernel_rfl
theorem two_1 (x0 x1 x2 x3 y0 y1 y2 y3 : Value) (w : World) : (Instr.index 191 (.agg #[x0, x1, x2, x3, y0, y1, y2, y3]) (.int .i64 1)).run Try.prog w = .ok (.agg #[y0, y1, y2, y3]) w := by kernel_rfl
/-- What stands of two parameters. -/
structure EbR (w wr : World) (L M : List Value) : Prop where
  a : Blk wr w.heap.size L
  b : Blk wr (w.heap.size + 1) M
  w : Below w.heap.size w wr
theorem EbR.past {w wr wy : World} {L M : List Value} (k : EbR w wr L M) (h : Below wr.heap.size wr wy) : EbR w wy L M := ⟨k.a.past h, k.b.past h, k.w.trans (h.mono k.w.size)⟩
set_option maxRecDepth 100000 in
set_option maxHeartbeats 3200000 in
theorem checkBoth_any (sa : Int) (la ha : Nat) (aa : Option Addr) (na ca : Nat) (sb : Int) (lb hb : Nat) (ab : Option Addr) (nb cb : Nat) (w : World) :
    Calls Try.prog 145 #[.agg #[.int .i64 sa, .float .f32 la, .float .f32 ha, .slice aa na ca], .agg #[.int .i64 sb, .float .f32 lb, .float .f32 hb, .slice ab nb cb]] w fun e w' => e = .returned (.int .i64 (bothE (cubErr sa la ha na) (cubErr sb lb hb nb) (confB sa sb la lb ha hb))) ∧ Below w.heap.size w w' := by
  obtain ⟨EA, hEA⟩ : ∃ E, E = cubErr sa la ha na := ⟨_, rfl⟩
  obtain ⟨EB, hEB⟩ : ∃ E, E = cubErr sb lb hb nb := ⟨_, rfl⟩
  rw [← hEA, ← hEB]
  have HEA := Lib.hid hEA; have HEB := Lib.hid hEB
  clear hEA hEB
  have j0 := two_0; have j1 := two_1
  go_enter Try.func145, Try.ntmps145
  go_upto_region 1 with fail
  refine wp_world (fun W hW => ?_)
  have R0 : EbR w W [.int .i64 sa, .float .f32 la, .float .f32 ha, .slice aa na ca] [.int .i64 sb, .float .f32 lb, .float .f32 hb, .slice ab nb cb] := by rw [hW]; exact ⟨(Blk.new _ _ _ _ rfl).alloc _, Blk.new _ _ _ _ (by simp), by (repeat (first | exact Below.refl _ _ | assumption | (refine Below.setCell ?_ (by first | (simp; done) | (simp; omega) | omega) _) | (refine Below.drew ?_) | (refine below_drewN ?_ _) | (refine Below.alloc ?_ (by first | (simp; done) | (simp; omega) | omega) _) | (refine Below.trans ?_ (Below.mono (by assumption) (by first | (simp; done) | (simp; omega) | omega)))))⟩
  have HR0 := Lib.hid R0
  have p0 := R0.a.c 0 _ rfl; have p1 := R0.a.c 1 _ rfl; have p2 := R0.a.c 2 _ rfl; have p3 := R0.a.c 3 _ rfl; have pl := R0.a.lt
  have q0 := R0.b.c 0 _ rfl; have q1 := R0.b.c 1 _ rfl; have q2 := R0.b.c 2 _ rfl; have q3 := R0.b.c 3 _ rfl; have ql := R0.b.lt
  clear hW R0
  go_wp2_with fail
  clear p0 p1 p2 p3 pl q0 q1 q2 q3 ql
  go_loopw [11] (fun s11 wr => ∃ r : Nat, r ≤ 2 ∧ s11 = .int .i64 r ∧ EbR w wr [.int .i64 sa, .float .f32 la, .float .f32 ha, .slice aa na ca] [.int .i64 sb, .float .f32 lb, .float .f32 hb, .slice ab nb cb] ∧ (1 ≤ r → EA = 0) ∧ (2 ≤ r → EB = 0)) (fun s11 _ => 2 - (intOf s11).toNat)
  case atStart => exact ⟨0, by omega, rfl, HR0.out, by omega, by omega⟩
  case round =>
    obtain ⟨r, hr, rfl, hR, hra, hrb⟩ := hrel
    have HR := Lib.hid hR
    clear hR HR0
    rcases (show r = 0 ∨ r = 1 ∨ r = 2 by omega) with rfl | rfl | rfl
    · rw [show ((0 : Nat) : Int) = 0 from rfl]
      clear hra hrb hr
      go_wp2_with fail
      refine (CuCheck_any _ _ _ _ _ _ _).mono ?_
      rintro e w2 ⟨rfl, hb2⟩
      rw [← HEA.out]
      have HR2 := Lib.hid (HR.out.past ((show Below wr.heap.size wr _ by (repeat (first | exact Below.refl _ _ | assumption | (refine Below.setCell ?_ (by first | (simp; done) | (simp; omega) | omega) _) | (refine Below.drew ?_) | (refine below_drewN ?_ _) | (refine Below.alloc ?_ (by first | (simp; done) | (simp; omega) | omega) _) | (refine Below.trans ?_ (Below.mono (by assumption) (by first | (simp; done) | (simp; omega) | omega)))))).trans (hb2.mono (by simp))))
      clear hb2 HR
      by_cases hA : EA = 0
      · subst hA
        go_wp2_with fail
        go_roundw
        case rel => exact ⟨1, by omega, by first | rfl | go_num, HR2.out, by simp, by omega⟩
        case measure => simp [intOf]
      · have hc : (EA != 0) = true := by simpa using hA
        have HA := Lib.hid hA
        clear hA
        go_wp2_with fail
        go_ret
        exact ⟨ret_i (by unfold bothE; rw [firstE_of _ HA.out, firstE_of _ HA.out]), HR2.out.w⟩
    · rw [show ((1 : Nat) : Int) = 1 from rfl]
      obtain rfl := hra (by omega)
      clear hra hrb hr
      go_wp2_with fail
      refine (CuCheck_any _ _ _ _ _ _ _).mono ?_
      rintro e w2 ⟨rfl, hb2⟩
      rw [← HEB.out]
      have HR2 := Lib.hid (HR.out.past ((show Below wr.heap.size wr _ by (repeat (first | exact Below.refl _ _ | assumption | (refine Below.setCell ?_ (by first | (simp; done) | (simp; omega) | omega) _) | (refine Below.drew ?_) | (refine below_drewN ?_ _) | (refine Below.alloc ?_ (by first | (simp; done) | (simp; omega) | omega) _) | (refine Below.trans ?_ (Below.mono (by assumption) (by first | (simp; done) | (simp; omega) | omega)))))).trans (hb2.mono (by simp))))
      clear hb2 HR
      by_cases hB : EB = 0
      · subst hB
        go_wp2_with fail
        go_roundw
        case rel => exact ⟨2, by omega, by first | rfl | go_num, HR2.out, by simp, by simp⟩
        case measure => simp [intOf]
      · have hc : (EB != 0) = true := by simpa using hB
        have HB := Lib.hid hB
        clear hB
        go_wp2_with fail
        go_ret
        exact ⟨ret_i (by unfold bothE; rw [firstE_0, firstE_of _ HB.out]), HR2.out.w⟩
    · obtain rfl := hra (by omega)
      obtain rfl := hrb (by omega)
      rw [show ((2 : Nat) : Int) = 2 from rfl]
      clear hra hrb hr
      have p0 := HR.out.a.c 0 _ rfl; have p1 := HR.out.a.c 1 _ rfl; have p2 := HR.out.a.c 2 _ rfl; have pl := HR.out.a.lt
      have q0 := HR.out.b.c 0 _ rfl; have q1 := HR.out.b.c 1 _ rfl; have q2 := HR.out.b.c 2 _ rfl; have ql := HR.out.b.lt
      by_cases hs : sa = sb
      · subst hs
        cases hl : (FloatKind.f32.format.order la lb != some .eq)
        · cases hh : (FloatKind.f32.format.order ha hb != some .eq)
          · go_wp2_with fail
            go_ret
            exact ⟨ret_i (by unfold bothE confB; rw [hl, hh]; simp; rfl), HR.out.w⟩
          · go_wp2_with fail
            go_ret
            exact ⟨ret_i (by unfold bothE confB; rw [hl, hh]; simp; rfl), HR.out.w⟩
        · go_wp2_with fail
          go_ret
          exact ⟨ret_i (by unfold bothE confB; rw [hl]; simp; rfl), HR.out.w⟩
      · go_wp2_with fail
        all_goals (go_ret; exact ⟨ret_i (by simp [bothE, confB, firstE, whenE, *]), HR.out.w⟩)
/-- What stands of two parameters and a result. -/
structure EcR (w wr : World) (L M : List Value) : Prop where
  a : Blk wr w.heap.size L
  b : Blk wr (w.heap.size + 1) M
  z : Blk wr (w.heap.size + 2) [.int .i64 0, .float .f32 0, .float .f32 0, .slice none 0 0]
  w : Below w.heap.size w wr
theorem EcR.past {w wr wy : World} {L M : List Value} (k : EcR w wr L M) (h : Below wr.heap.size wr wy) : EcR w wy L M := ⟨k.a.past h, k.b.past h, k.z.past h, k.w.trans (h.mono k.w.size)⟩
set_option maxRecDepth 100000 in
set_option maxHeartbeats 3200000 in
theorem Compose_no (sa : Int) (la ha : Nat) (aa : Option Addr) (na ca : Nat) (sb : Int) (lb hb : Nat) (ab : Option Addr) (nb cb : Nat) (w : World) (hE : firstE (cubErr sa la ha na) (cubErr sb lb hb nb) ≠ 0) :
    Calls Try.prog 104 #[.agg #[.int .i64 sa, .float .f32 la, .float .f32 ha, .slice aa na ca], .agg #[.int .i64 sb, .float .f32 lb, .float .f32 hb, .slice ab nb cb]] w fun e w' => e = .returned (.tuple #[.agg #[.int .i64 0, .float .f32 0, .float .f32 0, .slice none 0 0], .int .i64 (firstE (cubErr sa la ha na) (cubErr sb lb hb nb))]) ∧ Below w.heap.size w w' := by
  obtain ⟨EA, hEA⟩ : ∃ E, E = cubErr sa la ha na := ⟨_, rfl⟩
  obtain ⟨EB, hEB⟩ : ∃ E, E = cubErr sb lb hb nb := ⟨_, rfl⟩
  rw [← hEA, ← hEB] at hE ⊢
  have HEA := Lib.hid hEA; have HEB := Lib.hid hEB; have HE := Lib.hid hE
  clear hEA hEB hE
  have j0 := two_0; have j1 := two_1
  go_enter Try.func104, Try.ntmps104
  go_upto_region 1 with fail
  refine wp_world (fun W hW => ?_)
  have R0 : EcR w W [.int .i64 sa, .float .f32 la, .float .f32 ha, .slice aa na ca] [.int .i64 sb, .float .f32 lb, .float .f32 hb, .slice ab nb cb] := by rw [hW]; exact ⟨((Blk.new _ _ _ _ rfl).alloc _).alloc _, (Blk.new _ _ _ _ (by simp)).alloc _, Blk.new _ _ _ _ (by simp), by (repeat (first | exact Below.refl _ _ | assumption | (refine Below.setCell ?_ (by first | (simp; done) | (simp; omega) | omega) _) | (refine Below.drew ?_) | (refine below_drewN ?_ _) | (refine Below.alloc ?_ (by first | (simp; done) | (simp; omega) | omega) _) | (refine Below.trans ?_ (Below.mono (by assumption) (by first | (simp; done) | (simp; omega) | omega)))))⟩
  have HR0 := Lib.hid R0
  have p0 := R0.a.c 0 _ rfl; have p1 := R0.a.c 1 _ rfl; have p2 := R0.a.c 2 _ rfl; have p3 := R0.a.c 3 _ rfl; have pl := R0.a.lt
  have q0 := R0.b.c 0 _ rfl; have q1 := R0.b.c 1 _ rfl; have q2 := R0.b.c 2 _ rfl; have q3 := R0.b.c 3 _ rfl; have ql := R0.b.lt
  clear hW R0
  go_wp2_with fail
  clear p0 p1 p2 p3 pl q0 q1 q2 q3 ql
  go_loopw [12] (fun s12 wr => ∃ r : Nat, r ≤ 1 ∧ s12 = .int .i64 r ∧ EcR w wr [.int .i64 sa, .float .f32 la, .float .f32 ha, .slice aa na ca] [.int .i64 sb, .float .f32 lb, .float .f32 hb, .slice ab nb cb] ∧ (1 ≤ r → EA = 0)) (fun s12 _ => 2 - (intOf s12).toNat)
  case atStart => exact ⟨0, by omega, rfl, HR0.out, by omega⟩
  case round =>
    obtain ⟨r, hr, rfl, hR, hra⟩ := hrel
    have HR := Lib.hid hR
    clear hR HR0
    rcases (show r = 0 ∨ r = 1 by omega) with rfl | rfl
    · rw [show ((0 : Nat) : Int) = 0 from rfl]
      clear hra hr
      go_wp2_with fail
      refine (CuCheck_any _ _ _ _ _ _ _).mono ?_
      rintro e w2 ⟨rfl, hb2⟩
      rw [← HEA.out]
      have HR2 := Lib.hid (HR.out.past ((show Below wr.heap.size wr _ by (repeat (first | exact Below.refl _ _ | assumption | (refine Below.setCell ?_ (by first | (simp; done) | (simp; omega) | omega) _) | (refine Below.drew ?_) | (refine below_drewN ?_ _) | (refine Below.alloc ?_ (by first | (simp; done) | (simp; omega) | omega) _) | (refine Below.trans ?_ (Below.mono (by assumption) (by first | (simp; done) | (simp; omega) | omega)))))).trans (hb2.mono (by simp))))
      clear hb2 HR
      by_cases hA : EA = 0
      · subst hA
        go_wp2_with fail
        go_roundw
        case rel => exact ⟨1, by omega, by first | rfl | go_num, HR2.out, by simp⟩
        case measure => simp [intOf]
      · have hc : (EA != 0) = true := by simpa using hA
        have HA := Lib.hid hA
        clear hA
        have z0 := HR2.out.z.c 0 _ rfl; have z1 := HR2.out.z.c 1 _ rfl; have z2 := HR2.out.z.c 2 _ rfl; have z3 := HR2.out.z.c 3 _ rfl; have zf := HR2.out.z.f; have zl := HR2.out.z.lt
        have B2 := HR2.out.w
        go_wp2_with fail
        refine bodyPost_ret (v := .tuple #[.agg #[.int .i64 0, .float .f32 0, .float .f32 0, .slice none 0 0], .int .i64 EA]) (by simp [results, Try.results104, go_sem, z0, z1, z2, z3]) rfl ⟨by rw [firstE_of _ HA.out], ?_⟩
        exact (((B2.setCell (by first | (simp; done) | (simp; omega) | omega) _).setCell (by first | (simp; done) | (simp; omega) | omega) _).setCell (by first | (simp; done) | (simp; omega) | omega) _).setCell (by first | (simp; done) | (simp; omega) | omega) _
    · rw [show ((1 : Nat) : Int) = 1 from rfl]
      obtain rfl := hra (by omega)
      clear hra hr
      go_wp2_with fail
      refine (CuCheck_any _ _ _ _ _ _ _).mono ?_
      rintro e w2 ⟨rfl, hb2⟩
      rw [← HEB.out]
      have HR2 := Lib.hid (HR.out.past ((show Below wr.heap.size wr _ by (repeat (first | exact Below.refl _ _ | assumption | (refine Below.setCell ?_ (by first | (simp; done) | (simp; omega) | omega) _) | (refine Below.drew ?_) | (refine below_drewN ?_ _) | (refine Below.alloc ?_ (by first | (simp; done) | (simp; omega) | omega) _) | (refine Below.trans ?_ (Below.mono (by assumption) (by first | (simp; done) | (simp; omega) | omega)))))).trans (hb2.mono (by simp))))
      clear hb2 HR
      have hB : EB ≠ 0 := by have := HE.out; rw [firstE_0] at this; exact this
      have hc : (EB != 0) = true := by simpa using hB
      clear hB
      have z0 := HR2.out.z.c 0 _ rfl; have z1 := HR2.out.z.c 1 _ rfl; have z2 := HR2.out.z.c 2 _ rfl; have z3 := HR2.out.z.c 3 _ rfl; have zf := HR2.out.z.f; have zl := HR2.out.z.lt
      have B2 := HR2.out.w
      go_wp2_with fail
      refine bodyPost_ret (v := .tuple #[.agg #[.int .i64 0, .float .f32 0, .float .f32 0, .slice none 0 0], .int .i64 EB]) (by simp [results, Try.results104, go_sem, z0, z1, z2, z3]) rfl ⟨rfl, ?_⟩
      exact (((B2.setCell (by first | (simp; done) | (simp; omega) | omega) _).setCell (by first | (simp; done) | (simp; omega) | omega) _).setCell (by first | (simp; done) | (simp; omega) | omega) _).setCell (by first | (simp; done) | (simp; omega) | omega) _
set_option maxRecDepth 100000 in
set_option maxHeartbeats 3200000 in
theorem Compose_yes (S lo hi b off n cap : Nat) (fs : Nat → Nat) (T lot hit bt offt nt capt : Nat) (ft : Nat → Nat) (w : World) (he : cubErr S lo hi n = 0) (ht : cubErr T lot hit nt = 0) (hcap : n ≤ cap) (hc : Row w b off n fs) (hcapt : nt ≤ capt) (hct : Row w bt offt nt ft) :
    Calls Try.prog 104 #[.agg #[.int .i64 S, .float .f32 lo, .float .f32 hi, .slice (some ⟨b, off, none⟩) n cap], .agg #[.int .i64 T, .float .f32 lot, .float .f32 hit, .slice (some ⟨bt, offt, none⟩) nt capt]] w fun e w' =>
      ∃ g cap', e = .returned (.tuple #[.agg #[.int .i64 S, .float .f32 lo, .float .f32 hi, .slice (some ⟨g, 0, none⟩) n cap'], .int .i64 0]) ∧ g < w'.heap.size ∧ Row w' g 0 n (fun x => cpoG T lot hit ft fs (x / 3) (x % 3)) ∧ Below w.heap.size w w' := by
  obtain ⟨hS, hS0, hn, hpos, hnb⟩ := cub_ok_nat he
  obtain ⟨hT, hT0, hnt, hpost, hnbt⟩ := cub_ok_nat ht
  have hbw : b < w.heap.size := hc.lt (by omega)
  have hbt : bt < w.heap.size := hct.lt (by omega)
  have HK : Hid (∀ w2 pa pb, Below w.heap.size w w2 → Blk w2 pa (cubV S lo hi b off n cap) → Blk w2 pb (cubV T lot hit bt offt nt capt) → EntOK 182 #[.pointer (some ⟨pa, 0, none⟩), .pointer (some ⟨pb, 0, none⟩)] w2 S (cpoG T lot hit ft fs)) := fun w2 pa pb hb hA hB i j k w' hi' hj hk hb' => Compose_c S i j k lo hi b off n cap fs T lot hit bt offt nt capt ft pa pb w' hS hi' hj hk hn hcap (hc.below (hb.trans (hb'.mono hb.size)) hbw) ⟨hT0, hT⟩ hnt hcapt (hct.below (hb.trans (hb'.mono hb.size)) hbt) (hA.past hb') (hB.past hb')
  have HS := Lib.hid (And.intro hS (And.intro hS0 hn))
  have HEA := Lib.hid he; have HEB := Lib.hid ht
  clear he ht hcap hc hcapt hct hS hS0 hn hpos hnb hT hT0 hnt hpost hnbt hbw hbt
  have j0 := two_0; have j1 := two_1
  go_enter Try.func104, Try.ntmps104
  go_upto_region 1 with fail
  refine wp_world (fun W hW => ?_)
  have R0 : EcR w W (cubV S lo hi b off n cap) (cubV T lot hit bt offt nt capt) := by rw [hW]; exact ⟨((Blk.new _ _ _ _ rfl).alloc _).alloc _, (Blk.new _ _ _ _ (by simp)).alloc _, Blk.new _ _ _ _ (by simp), by (repeat (first | exact Below.refl _ _ | assumption | (refine Below.setCell ?_ (by first | (simp; done) | (simp; omega) | omega) _) | (refine Below.drew ?_) | (refine below_drewN ?_ _) | (refine Below.alloc ?_ (by first | (simp; done) | (simp; omega) | omega) _) | (refine Below.trans ?_ (Below.mono (by assumption) (by first | (simp; done) | (simp; omega) | omega)))))⟩
  have HR0 := Lib.hid R0
  have p0 := R0.a.c 0 _ rfl; have p1 := R0.a.c 1 _ rfl; have p2 := R0.a.c 2 _ rfl; have p3 := R0.a.c 3 _ rfl; have pl := R0.a.lt
  have q0 := R0.b.c 0 _ rfl; have q1 := R0.b.c 1 _ rfl; have q2 := R0.b.c 2 _ rfl; have q3 := R0.b.c 3 _ rfl; have ql := R0.b.lt
  clear hW R0
  go_wp2_with fail
  clear p0 p1 p2 p3 pl q0 q1 q2 q3 ql
  go_loopw [12] (fun s12 wr => ∃ r : Nat, r ≤ 2 ∧ s12 = .int .i64 r ∧ EcR w wr (cubV S lo hi b off n cap) (cubV T lot hit bt offt nt capt)) (fun s12 _ => 2 - (intOf s12).toNat)
  case atStart => exact ⟨0, by omega, rfl, HR0.out⟩
  case round =>
    obtain ⟨r, hr, rfl, hR⟩ := hrel
    have HR := Lib.hid hR
    clear hR HR0
    rcases (show r = 0 ∨ r = 1 ∨ r = 2 by omega) with rfl | rfl | rfl
    · rw [show ((0 : Nat) : Int) = 0 from rfl]
      clear hr
      go_wp2_with fail
      refine (CuCheck_any _ _ _ _ _ _ _).mono ?_
      rintro e w2 ⟨rfl, hb2⟩
      rw [HEA.out]
      have HR2 := Lib.hid (HR.out.past ((show Below wr.heap.size wr _ by (repeat (first | exact Below.refl _ _ | assumption | (refine Below.setCell ?_ (by first | (simp; done) | (simp; omega) | omega) _) | (refine Below.drew ?_) | (refine below_drewN ?_ _) | (refine Below.alloc ?_ (by first | (simp; done) | (simp; omega) | omega) _) | (refine Below.trans ?_ (Below.mono (by assumption) (by first | (simp; done) | (simp; omega) | omega)))))).trans (hb2.mono (by simp))))
      clear hb2 HR
      go_wp2_with fail
      go_roundw
      case rel => exact ⟨1, by omega, by first | rfl | go_num, HR2.out⟩
      case measure => simp [intOf]
    · rw [show ((1 : Nat) : Int) = 1 from rfl]
      clear hr
      go_wp2_with fail
      refine (CuCheck_any _ _ _ _ _ _ _).mono ?_
      rintro e w2 ⟨rfl, hb2⟩
      rw [HEB.out]
      have HR2 := Lib.hid (HR.out.past ((show Below wr.heap.size wr _ by (repeat (first | exact Below.refl _ _ | assumption | (refine Below.setCell ?_ (by first | (simp; done) | (simp; omega) | omega) _) | (refine Below.drew ?_) | (refine below_drewN ?_ _) | (refine Below.alloc ?_ (by first | (simp; done) | (simp; omega) | omega) _) | (refine Below.trans ?_ (Below.mono (by assumption) (by first | (simp; done) | (simp; omega) | omega)))))).trans (hb2.mono (by simp))))
      clear hb2 HR
      go_wp2_with fail
      go_roundw
      case rel => exact ⟨2, by omega, by first | rfl | go_num, HR2.out⟩
      case measure => simp [intOf]
    · rw [show ((2 : Nat) : Int) = 2 from rfl]
      clear hr
      have p0 := HR.out.a.c 0 _ rfl; have p1 := HR.out.a.c 1 _ rfl; have p2 := HR.out.a.c 2 _ rfl; have pl := HR.out.a.lt
      go_wp2_with fail
      refine (made_any 182 _ S lo hi (cpoG T lot hit ft fs) wr HS.out.1 (by have := HS.out.2.1; omega) (body_enters Try.func182 (by kernel_rfl) rfl) (HK.out wr _ _ HR.out.w HR.out.a HR.out.b)).mono ?_
      rintro e w3 ⟨g, cap3, rfl, hg1, hg2, hg3, hg4, hrow, hb3⟩
      rw [← HS.out.2.2] at hrow ⊢
      have Z3 := HR.out.z.past hb3
      have B3 := HR.out.w.trans (hb3.mono HR.out.w.size)
      have hne : w.heap.size + 2 ≠ g := by have := HR.out.z.lt; omega
      have HG := Lib.hid (And.intro hg2 (And.intro hrow (And.intro B3 hne)))
      clear hg1 hg2 hg3 hg4 hrow hb3 B3 hne p0 p1 p2 pl HR
      have z0 := Z3.c 0 _ rfl; have z1 := Z3.c 1 _ rfl; have z2 := Z3.c 2 _ rfl; have z3 := Z3.c 3 _ rfl; have zf := Z3.f; have zl := Z3.lt
      clear Z3
      go_wp2_with fail
      refine bodyPost_ret (v := .tuple #[.agg #[.int .i64 S, .float .f32 lo, .float .f32 hi, .slice (some ⟨g, 0, none⟩) n cap3], .int .i64 0]) (by simp [results, Try.results104, go_sem, z0, z1, z2, z3]) rfl ⟨g, cap3, rfl, by simpa [World.setCell] using HG.out.1, fun x hx => ?_, ?_⟩
      · have h := HG.out.2.1 x hx
        have hne := HG.out.2.2.2
        rw [← h]
        simp only [World.cell?_setCell_other _ _ _ _ (show (⟨w.heap.size + 2, _, none⟩ : Addr) ≠ ⟨g, 0 + x, none⟩ from fun e => hne (congrArg Addr.block e))]
      · have B3 := HG.out.2.2.1
        exact (((B3.setCell (by first | (simp; done) | (simp; omega) | omega) _).setCell (by first | (simp; done) | (simp; omega) | omega) _).setCell (by first | (simp; done) | (simp; omega) | omega) _).setCell (by first | (simp; done) | (simp; omega) | omega) _
end Go.Proofs.Ytmckkgbdlgldbaa

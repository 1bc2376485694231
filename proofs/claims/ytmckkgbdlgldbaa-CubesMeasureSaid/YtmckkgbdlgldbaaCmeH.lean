/- Bounds of a cube: cube.Bounds. Conditions: what each theorem names. -/
import Derived.Test.YtmckkgbdlgldbaaCmeG
import Derived.Laws.IdiomCopy
namespace Go.Proofs.Ytmckkgbdlgldbaa
open Go Go.RowKit
def lessF (a v : Nat) : Nat := if FloatKind.f32.format.order v a == some .lt then v else a
def moreF (a v : Nat) : Nat := if FloatKind.f32.format.order v a == some .gt then v else a
theorem less_t {a v : Nat} (h : (FloatKind.f32.format.order v a == some .lt) = true) : lessF a v = v := by unfold lessF; rw [if_pos h]
theorem less_f {a v : Nat} (h : (FloatKind.f32.format.order v a == some .lt) = false) : lessF a v = a := by unfold lessF; rw [if_neg (by rw [h]; decide)]
theorem more_t {a v : Nat} (h : (FloatKind.f32.format.order v a == some .gt) = true) : moreF a v = v := by unfold moreF; rw [if_pos h]
theorem more_f {a v : Nat} (h : (FloatKind.f32.format.order v a == some .gt) = false) : moreF a v = a := by unfold moreF; rw [if_neg (by rw [h]; decide)]
theorem less_same (a : Nat) : lessF a a = a := by unfold lessF; split <;> rfl
theorem more_same (a : Nat) : moreF a a = a := by unfold moreF; split <;> rfl
/-- The least and the greatest of a channel among the first values. -/
def loK (fs : Nat → Nat) (m : Nat) : Nat → Nat
  | 0 => fs m
  | K + 1 => if K % 3 = m then lessF (loK fs m K) (fs K) else loK fs m K
def hiK (fs : Nat → Nat) (m : Nat) : Nat → Nat
  | 0 => fs m
  | K + 1 => if K % 3 = m then moreF (hiK fs m K) (fs K) else hiK fs m K
theorem loK_first {fs : Nat → Nat} {m : Nat} (_ : m < 3) : ∀ K, K ≤ m + 1 → loK fs m K = fs m := by
  intro K
  induction K with
  | zero => intro _; rfl
  | succ K ih =>
    intro hK
    show (if K % 3 = m then lessF (loK fs m K) (fs K) else loK fs m K) = fs m
    rw [ih (by omega)]
    split
    · have : K = m := by omega
      subst this; exact less_same _
    · rfl
theorem hiK_first {fs : Nat → Nat} {m : Nat} (_ : m < 3) : ∀ K, K ≤ m + 1 → hiK fs m K = fs m := by
  intro K
  induction K with
  | zero => intro _; rfl
  | succ K ih =>
    intro hK
    show (if K % 3 = m then moreF (hiK fs m K) (fs K) else hiK fs m K) = fs m
    rw [ih (by omega)]
    split
    · have : K = m := by omega
      subst this; exact more_same _
    · rfl
theorem exit_world {next : Act → World → Prop} {Q : Exit → Act → World → Prop} {e : Exit} {a : Act} {w : World} (h : ∀ W, W = w → Exit.then next Q e a W) : Exit.then next Q e a w := h w rfl
theorem step_copy_cells {P : Program} {ops : Array Oper} {o : Oper} {a : Act} {w : World} {K : Act → World → Prop} {Q : Exit → Act → World → Prop} {E : Prop} (hgd : o.guard = none) (d s : Operand) (dT sT : TypeId)
    (ho : o.op = .call { callee := .builtin .copy, args := #[d, s], argTypes := #[dT, sT] }) (elem : TypeId) (hu : P.underlying dT = some (.slice elem)) (hsz : (P.info? elem).map (·.size) = some 1)
    (g off dLen dCap : Nat) (ad : Addr) (sLen sCap : Nat) (hd : a.eval d = .slice (some ⟨g, off, none⟩) dLen dCap) (hs : a.eval s = .slice (some ad) sLen sCap)
    (cs : List Value) (hn : cs.length = Nat.min sLen dLen) (hsrc : ∀ j v, cs[j]? = some v → w.cell? (ad.add j) = some v)
    (hc : ∀ j, j < cs.length → (w.cell? ⟨g, off + j, none⟩).isSome = true) (hf : ∀ j, j < cs.length → w.frozen? ⟨g, off + j, none⟩ = false) (h1 : ∀ v ∈ cs, v.oneCell' = true)
    (h : K (a.put o.dst (goInt cs.length)) (w.setCells g off cs)) :
    if Region.wanted o (yielded ops a.tmps) = true then Oper.wp P o a w K Q else E := by
  have hw : Region.wanted o (yielded ops a.tmps) = true := by simp [Region.wanted, hgd]
  rw [if_pos hw]
  have hrun := run_copy_cells (P := P) w dT sT o.type elem g off dLen dCap ad sLen sCap cs hu hsz hn hsrc hc hf h1
  unfold Oper.wp
  simp [execOp, ho, resolve, invoke, builtin, hd, hs, hrun, Result.andThen]
  exact h
/-- What stands of the walk's variables. -/
structure BoR (w wr : World) (La : List Value) (x y : Nat → Nat) : Prop where
  a : Blk wr w.heap.size La
  x : VecF wr (w.heap.size + 1) 3 x
  y : VecF wr (w.heap.size + 1 + 1) 3 y
  w : Below w.heap.size w wr
theorem BoR.past {w wr wy : World} {La : List Value} {x y : Nat → Nat} (k : BoR w wr La x y) (h : Below wr.heap.size wr wy) : BoR w wy La x y := ⟨k.a.past h, k.x.past h, k.y.past h, k.w.trans (h.mono k.w.size)⟩
theorem BoR.setx {w wr : World} {La : List Value} {x y : Nat → Nat} (k : BoR w wr La x y) (i v : Nat) (hi : i < 3) : BoR w (wr.setCell ⟨w.heap.size + 1, i, none⟩ (.float .f32 v)) La (fun j => if j = i then v else x j) y :=
  ⟨k.a.far _ _ (by simp), k.x.set i v hi, k.y.far _ _ (by simp), k.w.setCell (by simp) _⟩
theorem BoR.sety {w wr : World} {La : List Value} {x y : Nat → Nat} (k : BoR w wr La x y) (i v : Nat) (hi : i < 3) : BoR w (wr.setCell ⟨w.heap.size + 1 + 1, i, none⟩ (.float .f32 v)) La x (fun j => if j = i then v else y j) :=
  ⟨k.a.far _ _ (by simp; omega), k.x.far _ _ (by simp), k.y.set i v hi, k.w.setCell (by simp; omega) _⟩
theorem BoR.congr {w wr : World} {La : List Value} {x y x' y' : Nat → Nat} (k : BoR w wr La x y) (e1 : ∀ j, j < 3 → x j = x' j) (e2 : ∀ j, j < 3 → y j = y' j) : BoR w wr La x' y' := ⟨k.a, k.x.congr e1, k.y.congr e2, k.w⟩
def BoPsi (_ : FuncId) (args : Array Value) (u : Value) : Prop := ∀ a b c, args = #[.agg #[.float .f32 a, .float .f32 b, .float .f32 c]] → u = .agg #[.float .f32 (cn .f32 a), .float .f32 (cn .f32 b), .float .f32 (cn .f32 c)]
theorem bo_psi {f : FuncId} {a b c : Nat} {u : Value} : BoPsi f #[.agg #[.float .f32 a, .float .f32 b, .float .f32 c]] u ↔ u = .agg #[.float .f32 (cn .f32 a), .float .f32 (cn .f32 b), .float .f32 (cn .f32 c)] := by
  unfold BoPsi
  refine ⟨fun h => h a b c rfl, fun h a' b' c' e => ?_⟩
  simp at e
  obtain ⟨rfl, rfl, rfl⟩ := e
  exact h
set_option maxRecDepth 100000 in
set_option maxHeartbeats 6400000 in
theorem Bounds_yes (S lo hi b off n cap : Nat) (fs : Nat → Nat) (w : World) (he : cubErr S lo hi n = 0) (hc : Row w b off n fs) :
    Calls Try.prog 58 #[.agg #[.int .i64 S, .float .f32 lo, .float .f32 hi, .slice (some ⟨b, off, none⟩) n cap]] w fun e w' =>
      e = .returned (.tuple #[.agg #[.float .f32 (cn .f32 (loK fs 0 n)), .float .f32 (cn .f32 (loK fs 1 n)), .float .f32 (cn .f32 (loK fs 2 n))], .agg #[.float .f32 (cn .f32 (hiK fs 0 n)), .float .f32 (cn .f32 (hiK fs 1 n)), .float .f32 (cn .f32 (hiK fs 2 n))], .int .i64 0]) ∧ Below w.heap.size w w' := by
  obtain ⟨hS, hS0, hn, hpos, hnb⟩ := cub_ok_nat he
  have hn24 : 24 ≤ n := by have := Nat.mul_le_mul (Nat.mul_le_mul hS0 hS0) hS0; omega
  have hn6 : n ≤ 14739 := by have := side_le hS (x := 3) (by omega); have e : S ^ 3 = S * S * S := by simp [Nat.pow_succ]
                             omega
  have hbw : b < w.heap.size := hc.lt (by omega)
  have HC := Lib.hid (fun (w' : World) (hb : Below w.heap.size w w') => hc.below hb hbw : ∀ w', Below w.heap.size w w' → _); have HE := Lib.hid he
  have hB := Lib.hid hbw
  clear he hc hbw hn hpos hnb hS hS0
  go_enter Try.func58, Try.ntmps58
  go_upto_region 1 with fail
  refine wp_world (fun W hW => ?_)
  have R0 : BoR w W [.int .i64 S, .float .f32 lo, .float .f32 hi, .slice (some ⟨b, off, none⟩) n cap] (fun _ => 0) (fun _ => 0) := by
    rw [hW]
    exact ⟨((Blk.new _ _ _ _ rfl).alloc _).alloc _, VecF.of3 ((Blk.new _ [.float .f32 0, .float .f32 0, .float .f32 0] _ _ (by simp)).alloc _), VecF.of3 (Blk.new _ [.float .f32 0, .float .f32 0, .float .f32 0] _ _ (by simp)), by (repeat (first | exact Below.refl _ _ | assumption | (refine Below.setCell ?_ (by first | (simp; done) | (simp; omega) | omega) _) | (refine Below.drew ?_) | (refine below_drewN ?_ _) | (refine Below.alloc ?_ (by first | (simp; done) | (simp; omega) | omega) _) | (refine Below.trans ?_ (Below.mono (by assumption) (by first | (simp; done) | (simp; omega) | omega)))))⟩
  have HR0 := Lib.hid R0
  have a0 := R0.a.c 0 _ rfl; have a1 := R0.a.c 1 _ rfl; have a2 := R0.a.c 2 _ rfl; have a3 := R0.a.c 3 _ rfl; have al := R0.a.lt
  clear hW R0
  go_wp2_with fail
  refine (CuCheck_any _ _ _ _ _ _ _).mono ?_
  rintro e w2 ⟨rfl, hb2⟩
  rw [HE.out]
  have HR2 := Lib.hid (HR0.out.past hb2)
  clear hb2 a0 a1 a2 a3 al HR0
  have a3 := HR2.out.a.c 3 _ rfl; have al := HR2.out.a.lt
  have xl := HR2.out.x.lt; have yl := HR2.out.y.lt
  go_upto_region 4 with fail
  have C2 := HC.out w2 HR2.out.w
  have c0 := C2 0 (by omega); have c1 := C2 1 (by omega); have c2 := C2 2 (by omega)
  clear C2
  have X2 := (HR2.out.past ((Below.refl _ _).drew)).x
  (go_region_law (refine step_copy_cells rfl (.tmp 15) (.tmp 17) 25 25 rfl 38 Try.underlying25 (by kernel_rfl) (w.heap.size + 1) 0 3 3 ⟨b, off, none⟩ n cap rfl rfl [.float .f32 (fs 0), .float .f32 (fs 1), .float .f32 (fs 2)] (show 3 = min n 3 by omega) (by intro j u hj; match j, hj with | 0, hj => (simp at hj; subst hj; exact c0) | 1, hj => (simp at hj; subst hj; exact c1) | 2, hj => (simp at hj; subst hj; exact c2)) (fun j hj => by rw [Nat.zero_add, X2.c j hj]; rfl) (fun j hj => X2.f _) (by intro u hu; simp at hu; rcases hu with rfl | rfl | rfl <;> rfl) ?_))
  refine exit_world (fun W3 hW3 => ?_)
  have R3 : BoR w W3 [.int .i64 S, .float .f32 lo, .float .f32 hi, .slice (some ⟨b, off, none⟩) n cap] (fun j => if j = 2 then fs 2 else if j = 1 then fs 1 else if j = 0 then fs 0 else 0) (fun _ => 0) := by
    rw [hW3]
    exact (((HR2.out.past ((Below.refl _ _).drew)).setx 0 (fs 0) (by omega)).setx 1 (fs 1) (by omega)).setx 2 (fs 2) (by omega)
  have HR3 := Lib.hid R3
  clear hW3 a3 al xl yl X2 c0 c1 c2 HR2
  have a3 := R3.a.c 3 _ rfl; have al := R3.a.lt
  have xl := R3.x.lt; have yl := R3.y.lt
  clear R3
  have C3 := HC.out W3 HR3.out.w
  have c0 : W3.cell? ⟨b, off, none⟩ = some (.float .f32 (fs 0)) := C3 0 (by omega)
  have c1 := C3 1 (by omega); have c2 := C3 2 (by omega)
  clear C3
  have Y2 := (HR3.out.past ((Below.refl _ _).drew)).y
  go_upto_region 5 with fail
  (go_region_law (refine step_copy_cells rfl (.tmp 19) (.tmp 21) 25 25 rfl 38 Try.underlying25 (by kernel_rfl) (w.heap.size + 1 + 1) 0 3 3 ⟨b, off, none⟩ n cap rfl rfl [.float .f32 (fs 0), .float .f32 (fs 1), .float .f32 (fs 2)] (show 3 = min n 3 by omega) (by intro j u hj; match j, hj with | 0, hj => (simp at hj; subst hj; exact c0) | 1, hj => (simp at hj; subst hj; exact c1) | 2, hj => (simp at hj; subst hj; exact c2)) (fun j hj => by rw [Nat.zero_add, Y2.c j hj]; rfl) (fun j hj => Y2.f _) (by intro u hu; simp at hu; rcases hu with rfl | rfl | rfl <;> rfl) ?_))
  refine exit_world (fun W4 hW4 => ?_)
  have R4 : BoR w W4 [.int .i64 S, .float .f32 lo, .float .f32 hi, .slice (some ⟨b, off, none⟩) n cap] (fun m => loK fs m 0) (fun m => hiK fs m 0) := by
    rw [hW4]
    refine BoR.congr ((((HR3.out.past ((Below.refl _ _).drew)).sety 0 (fs 0) (by omega)).sety 1 (fs 1) (by omega)).sety 2 (fs 2) (by omega)) (fun j hj => ?_) (fun j hj => ?_)
    · rcases (show j = 0 ∨ j = 1 ∨ j = 2 by omega) with rfl | rfl | rfl <;> rfl
    · rcases (show j = 0 ∨ j = 1 ∨ j = 2 by omega) with rfl | rfl | rfl <;> rfl
  have HR4 := Lib.hid R4
  clear hW4 a3 al xl yl Y2 c0 c1 c2 HR3
  have a3 := R4.a.c 3 _ rfl; have al := R4.a.lt
  clear R4
  go_upto_region 7 with fail
  clear a3 al
  go_loopw [26] (fun s26 wr => ∃ k : Nat, k ≤ n ∧ s26 = .int .i64 k ∧ BoR w wr [.int .i64 S, .float .f32 lo, .float .f32 hi, .slice (some ⟨b, off, none⟩) n cap] (fun m => loK fs m k) (fun m => hiK fs m k)) (fun s26 _ => n - (intOf s26).toNat)
  case atStart => exact ⟨0, Nat.zero_le _, rfl, HR4.out⟩
  case round =>
    obtain ⟨k, hk, rfl, hR⟩ := hrel
    have HR := Lib.hid hR
    clear hR HR4
    by_cases hkn : k < n
    · have hkn' : (k : Int) < (n : Int) := by omega
      have C := HC.out _ HR.out.w
      have c0 := C k hkn
      obtain ⟨v, hv⟩ : ∃ v, v = fs k := ⟨_, rfl⟩
      rw [← hv] at c0
      obtain ⟨m, hm⟩ : ∃ m, m = k % 3 := ⟨_, rfl⟩
      have hm3 : m < 3 := by omega
      have hm3' : (m : Int) < 3 := by omega
      have tm : (k : Int).tmod 3 = (m : Int) := by rw [Int.tmod_eq_emod_of_nonneg (by omega)]; omega
      have x0 := HR.out.x.c m hm3; have xl := HR.out.x.lt; have xf := HR.out.x.f
      have y0 := HR.out.y.c m hm3; have yl := HR.out.y.lt; have yf := HR.out.y.f
      obtain ⟨lv, hlv⟩ : ∃ z, z = loK fs m k := ⟨_, rfl⟩
      obtain ⟨hv2, hhv⟩ : ∃ z, z = hiK fs m k := ⟨_, rfl⟩
      rw [← hlv] at x0; rw [← hhv] at y0
      have HLO := Lib.hid (show ∀ j, (if j = m then lessF lv v else loK fs j k) = loK fs j (k + 1) from fun j => by
        show _ = (if k % 3 = j then lessF (loK fs j k) (fs k) else loK fs j k)
        by_cases h : j = m
        · subst h; rw [if_pos rfl, if_pos hm.symm, hlv, hv]
        · rw [if_neg h, if_neg (fun e => h (by omega))])
      have HHI := Lib.hid (show ∀ j, (if j = m then moreF hv2 v else hiK fs j k) = hiK fs j (k + 1) from fun j => by
        show _ = (if k % 3 = j then moreF (hiK fs j k) (fs k) else hiK fs j k)
        by_cases h : j = m
        · subst h; rw [if_pos rfl, if_pos hm.symm, hhv, hv]
        · rw [if_neg h, if_neg (fun e => h (by omega))])
      have HLV := Lib.hid (And.intro hlv hhv)
      have hl := cell_lt c0; simp only at hl
      clear C hv hm hlv hhv
      cases hO1 : (FloatKind.f32.format.order v lv == some .lt)
      · have HX := Lib.hid (show ∀ j, loK fs j k = loK fs j (k + 1) from fun j => by
          rw [← HLO.out j, less_f hO1]
          by_cases h : j = m
          · rw [if_pos h, HLV.out.1, h]
          · rw [if_neg h])
        cases hO2 : (FloatKind.f32.format.order v hv2 == some .gt)
        · have HY := Lib.hid (show ∀ j, hiK fs j k = hiK fs j (k + 1) from fun j => by
            rw [← HHI.out j, more_f hO2]
            by_cases h : j = m
            · rw [if_pos h, HLV.out.2, h]
            · rw [if_neg h])
          go_wp2_with fail
          go_roundw
          case rel => exact ⟨k + 1, by omega, by go_num, BoR.congr HR.out (fun j _ => HX.out j) (fun j _ => HY.out j)⟩
          case measure => simp [intOf]; omega
        · have HY := Lib.hid (show ∀ j, (if j = m then v else hiK fs j k) = hiK fs j (k + 1) from fun j => by rw [← HHI.out j, more_t hO2])
          go_wp2_with fail
          go_roundw
          case rel => exact ⟨k + 1, by omega, by go_num, BoR.congr (HR.out.sety m v hm3) (fun j _ => HX.out j) (fun j _ => HY.out j)⟩
          case measure => simp [intOf]; omega
      · have HX := Lib.hid (show ∀ j, (if j = m then v else loK fs j k) = loK fs j (k + 1) from fun j => by rw [← HLO.out j, less_t hO1])
        cases hO2 : (FloatKind.f32.format.order v hv2 == some .gt)
        · have HY := Lib.hid (show ∀ j, hiK fs j k = hiK fs j (k + 1) from fun j => by
            rw [← HHI.out j, more_f hO2]
            by_cases h : j = m
            · rw [if_pos h, HLV.out.2, h]
            · rw [if_neg h])
          go_wp2_with fail
          go_roundw
          case rel => exact ⟨k + 1, by omega, by go_num, BoR.congr (HR.out.setx m v hm3) (fun j _ => HX.out j) (fun j _ => HY.out j)⟩
          case measure => simp [intOf]; omega
        · have HY := Lib.hid (show ∀ j, (if j = m then v else hiK fs j k) = hiK fs j (k + 1) from fun j => by rw [← HHI.out j, more_t hO2])
          go_wp2_with fail
          go_roundw
          case rel => exact ⟨k + 1, by omega, by go_num, BoR.congr ((HR.out.setx m v hm3).sety m v hm3) (fun j _ => HX.out j) (fun j _ => HY.out j)⟩
          case measure => simp [intOf]; omega
    · obtain rfl : k = n := by omega
      have hkk : ¬ (k : Int) < (k : Int) := by omega
      have x0 := HR.out.x.c 0 (by omega); have x1 := HR.out.x.c 1 (by omega); have x2 := HR.out.x.c 2 (by omega); have xl := HR.out.x.lt; have xf := HR.out.x.f
      have y0 := HR.out.y.c 0 (by omega); have y1 := HR.out.y.c 1 (by omega); have y2 := HR.out.y.c 2 (by omega); have yl := HR.out.y.lt; have yf := HR.out.y.f
      obtain ⟨l0, el0⟩ : ∃ z, z = loK fs 0 k := ⟨_, rfl⟩
      rw [← el0] at x0
      obtain ⟨l1, el1⟩ : ∃ z, z = loK fs 1 k := ⟨_, rfl⟩
      rw [← el1] at x1
      obtain ⟨l2, el2⟩ : ∃ z, z = loK fs 2 k := ⟨_, rfl⟩
      rw [← el2] at x2
      obtain ⟨h0, eh0⟩ : ∃ z, z = hiK fs 0 k := ⟨_, rfl⟩
      rw [← eh0] at y0
      obtain ⟨h1, eh1⟩ : ∃ z, z = hiK fs 1 k := ⟨_, rfl⟩
      rw [← eh1] at y1
      obtain ⟨h2, eh2⟩ : ∃ z, z = hiK fs 2 k := ⟨_, rfl⟩
      rw [← eh2] at y2
      have HB := Lib.hid HR.out.w
      have HX := Lib.hid (And.intro HR.out.x HR.out.y)
      have HL := Lib.hid (And.intro el0 (And.intro el1 (And.intro el2 (And.intro eh0 (And.intro eh1 eh2)))))
      clear el0 el1 el2 eh0 eh1 eh2
      clear HR HC
      go_upto_region 14 with fail
      refine wp_region_loose 4 BoPsi (by kernel_rfl) (by kernel_rfl) ?_
      simp only [List.take_succ_cons, List.take_zero, List.drop_succ_cons, List.drop_zero]
      iterate 1 (refine loose_wanted rfl (fun K hK => ?_); go_simp; refine hK _ ?_; clear hK K)
      refine loose_wanted rfl (fun K1 hK => ?_)
      go_simp
      refine ⟨fun p => (cleaned_any _ _ _ p.w).mono ?_, ?_⟩
      · rintro e w' ⟨rfl, hb⟩
        exact ⟨_, rfl, bo_psi.2 rfl, p.h.trans (hb.mono p.h.size)⟩
      intro u hu
      obtain rfl := bo_psi.1 hu
      refine hK _ ?_
      clear hK K1 hu
      iterate 1 (refine loose_wanted rfl (fun K hK => ?_); go_simp; refine hK _ ?_; clear hK K)
      refine loose_wanted rfl (fun K1 hK => ?_)
      go_simp
      refine ⟨fun p => (cleaned_any _ _ _ p.w).mono ?_, ?_⟩
      · rintro e w' ⟨rfl, hb⟩
        exact ⟨_, rfl, bo_psi.2 rfl, p.h.trans (hb.mono p.h.size)⟩
      intro u hu
      obtain rfl := bo_psi.1 hu
      refine hK _ ?_
      clear hK K1 hu
      refine loose_nil (fun w5 hb5 => ?_)
      have X5 := HX.out.1.past hb5; have Y5 := HX.out.2.past hb5
      have B5 := HB.out.trans (hb5.mono HB.out.size)
      have HW5 := Lib.hid (And.intro B5 (And.intro X5 Y5))
      clear x0 x1 x2 xl xf y0 y1 y2 yl yf hb5 HX HB B5
      obtain ⟨el0, el1, el2, eh0, eh1, eh2⟩ := HL.out
      have x0 := X5.c 0 (by omega); have x1 := X5.c 1 (by omega); have x2 := X5.c 2 (by omega); have xl := X5.lt; have xf := X5.f
      have y0 := Y5.c 0 (by omega); have y1 := Y5.c 1 (by omega); have y2 := Y5.c 2 (by omega); have yl := Y5.lt; have yf := Y5.f
      rw [← el0] at x0; rw [← el1] at x1; rw [← el2] at x2; rw [← eh0] at y0; rw [← eh1] at y1; rw [← eh2] at y2
      clear X5 Y5 el0 el1 el2 eh0 eh1 eh2
      go_wp2_with fail
      refine bodyPost_ret (v := .tuple #[.agg #[.float .f32 (cn .f32 l0), .float .f32 (cn .f32 l1), .float .f32 (cn .f32 l2)], .agg #[.float .f32 (cn .f32 h0), .float .f32 (cn .f32 h1), .float .f32 (cn .f32 h2)], .int .i64 0]) (by simp [results, Try.results58, go_sem, x0, x1, x2, y0, y1, y2]) rfl ⟨?_, ?_⟩
      · obtain ⟨el0, el1, el2, eh0, eh1, eh2⟩ := HL.out
        rw [el0, el1, el2, eh0, eh1, eh2]
      · have hb := HW5.out.1
        exact (((((hb.setCell (by first | (simp; done) | (simp; omega) | omega) _).setCell (by first | (simp; done) | (simp; omega) | omega) _).setCell (by first | (simp; done) | (simp; omega) | omega) _).setCell (by first | (simp; done) | (simp; omega) | omega) _).setCell (by first | (simp; done) | (simp; omega) | omega) _).setCell (by first | (simp; done) | (simp; omega) | omega) _
set_option maxHeartbeats 800000 in
theorem Bounds_no (sa : Int) (la ha : Nat) (aa : Option Addr) (na ca : Nat) (w : World) (hE : cubErr sa la ha na ≠ 0) :
    Calls Try.prog 58 #[.agg #[.int .i64 sa, .float .f32 la, .float .f32 ha, .slice aa na ca]] w fun e w' => e = .returned (.tuple #[.agg #[.float .f32 0, .float .f32 0, .float .f32 0], .agg #[.float .f32 0, .float .f32 0, .float .f32 0], .int .i64 (cubErr sa la ha na)]) ∧ Below w.heap.size w w' := by
  obtain ⟨EA, hEA⟩ : ∃ E, E = cubErr sa la ha na := ⟨_, rfl⟩
  rw [← hEA] at hE ⊢
  have hc : (EA != 0) = true := by simpa using hE
  have HEA := Lib.hid hEA
  clear hEA hE
  go_enter Try.func58, Try.ntmps58
  go_upto_region 1 with fail
  refine wp_world (fun W hW => ?_)
  have R0 : BoR w W [.int .i64 sa, .float .f32 la, .float .f32 ha, .slice aa na ca] (fun _ => 0) (fun _ => 0) := by
    rw [hW]
    exact ⟨((Blk.new _ _ _ _ rfl).alloc _).alloc _, VecF.of3 ((Blk.new _ [.float .f32 0, .float .f32 0, .float .f32 0] _ _ (by simp)).alloc _), VecF.of3 (Blk.new _ [.float .f32 0, .float .f32 0, .float .f32 0] _ _ (by simp)), by (repeat (first | exact Below.refl _ _ | assumption | (refine Below.setCell ?_ (by first | (simp; done) | (simp; omega) | omega) _) | (refine Below.drew ?_) | (refine below_drewN ?_ _) | (refine Below.alloc ?_ (by first | (simp; done) | (simp; omega) | omega) _) | (refine Below.trans ?_ (Below.mono (by assumption) (by first | (simp; done) | (simp; omega) | omega)))))⟩
  have HR0 := Lib.hid R0
  have a0 := R0.a.c 0 _ rfl; have a1 := R0.a.c 1 _ rfl; have a2 := R0.a.c 2 _ rfl; have a3 := R0.a.c 3 _ rfl; have al := R0.a.lt
  clear hW R0
  go_wp2_with fail
  refine (CuCheck_any _ _ _ _ _ _ _).mono ?_
  rintro e w2 ⟨rfl, hb2⟩
  rw [← HEA.out]
  have R2 := HR0.out.past hb2
  clear hb2 a0 a1 a2 a3 al HR0
  have x0 := R2.x.c 0 (by omega); have x1 := R2.x.c 1 (by omega); have x2 := R2.x.c 2 (by omega); have xl := R2.x.lt; have xf := R2.x.f
  have y0 := R2.y.c 0 (by omega); have y1 := R2.y.c 1 (by omega); have y2 := R2.y.c 2 (by omega); have yl := R2.y.lt; have yf := R2.y.f
  have HB := Lib.hid R2.w
  clear R2
  go_wp2_with fail
  refine bodyPost_ret (v := .tuple #[.agg #[.float .f32 0, .float .f32 0, .float .f32 0], .agg #[.float .f32 0, .float .f32 0, .float .f32 0], .int .i64 EA]) (by simp [results, Try.results58, go_sem, x0, x1, x2, y0, y1, y2]) rfl ⟨rfl, ?_⟩
  have hb := HB.out
  exact (((((hb.setCell (by first | (simp; done) | (simp; omega) | omega) _).setCell (by first | (simp; done) | (simp; omega) | omega) _).setCell (by first | (simp; done) | (simp; omega) | omega) _).setCell (by first | (simp; done) | (simp; omega) | omega) _).setCell (by first | (simp; done) | (simp; omega) | omega) _).setCell (by first | (simp; done) | (simp; omega) | omega) _
end Go.Proofs.Ytmckkgbdlgldbaa

/- CubesApply: what cube.Apply hands back, right or wrong; the maker of the statement's frame. Conditions: what came in is known where it is right. -/
import Derived.Test.YtkmjboffjhcoaaaCaF
namespace Go.Proofs.Ytkmjboffjhcoaaa
open Go Go.RowKit
theorem mixTcn (a b c d s t u : Nat) : cn .f32 (mixT a b c d s t u) = mixT a b c d s t u := by
  unfold mixT
  repeat (first | exact cn_cn _ _ | exact cn_fop _ _ _ _ | split)
theorem nan_cn : cn .f32 2143289344 = 2143289344 := by decide +kernel
theorem tet_cn (S lo hi : Nat) (fs p : Nat → Nat) (n : Nat) : cn .f32 (tetF S lo hi fs p n) = tetF S lo hi fs p n := by
  unfold tetF
  by_cases hn : n < 3
  · simp only [if_pos hn]
    cases brokB p
    · exact mixTcn _ _ _ _ _ _ _
    · exact nan_cn
  · simp only [if_neg hn]; exact cn_cn _ _
theorem lerp_cn (a b t : Nat) : cn .f32 (lerpF a b t) = lerpF a b t := by
  unfold lerpF
  repeat (first | exact cn_cn _ _ | exact cn_fop _ _ _ _ | split)
theorem lin_cn (S lo hi : Nat) (fs p : Nat → Nat) (n : Nat) : cn .f32 (linF S lo hi fs p n) = linF S lo hi fs p n := by
  unfold linF
  by_cases hn : n < 3
  · simp only [if_pos hn]
    cases brokB p
    · exact lerp_cn _ _ _
    · exact nan_cn
  · simp only [if_neg hn]; exact cn_cn _ _
/-- The singles behind a cube, by either way. -/
def howG (how : Int) (S lo hi : Nat) (fc fs : Nat → Nat) (k m : Nat) : Nat := if how = 1 then apG tetF S lo hi fc fs k m else apG linF S lo hi fc fs k m
theorem howG_cn (how : Int) (S lo hi : Nat) (fc fs : Nat → Nat) (k m : Nat) : cn .f32 (howG how S lo hi fc fs k m) = howG how S lo hi fc fs k m := by
  unfold howG; split
  · exact tet_cn _ _ _ _ _ _
  · exact lin_cn _ _ _ _ _ _
/-- A frame that came in: where it is right its singles are known. -/
def FraIn (w : World) (x y v h : Int) (a : Option Addr) (n c : Nat) (fs : Nat → Nat) : Prop := fraErr x y v h n = 0 → ∃ b off, a = some ⟨b, off, none⟩ ∧ n ≤ c ∧ c ≤ 9223372036854775807 ∧ Row w b off n fs
theorem fra_pos {x y v h : Int} {n : Nat} (hE : fraErr x y v h n = 0) : 0 < n ∧ n ≤ 65536 := by
  obtain ⟨he, hl⟩ := fraErr_ok hE
  have := fr_n he hl
  omega
theorem FraIn.of {w : World} {x y v h : Int} {a : Option Addr} {n c : Nat} {fs : Nat → Nat} (k : IsFloats w a n c fs) : FraIn w x y v h a n c fs := fun he => by
  have hp := fra_pos he
  rcases k with ⟨hz, -⟩ | ⟨b, off, rfl, -, hcap, hm, hcell⟩
  · omega
  · exact ⟨b, off, rfl, hcap, by unfold maxLen at hm; omega, fun i hi => (hcell i (by omega)).1⟩
theorem FraIn.below {W w : World} {m : Nat} {x y v h : Int} {a : Option Addr} {n c : Nat} {fs : Nat → Nat} (k : FraIn W x y v h a n c fs) (hb : Below m W w) (hm : W.heap.size ≤ m) : FraIn w x y v h a n c fs := fun he => by
  obtain ⟨b, off, h1, h2, h3, h4⟩ := k he
  have := h4.lt (fra_pos he).1
  exact ⟨b, off, h1, h2, h3, h4.below hb (by omega)⟩
/-- What Apply hands back. -/
def FrOf (E x y v h : Int) (n : Nat) (F : Nat → Nat) (w : World) (gx gy gv gh : Int) (ga : Option Addr) (m gc : Nat) (ge : Int) : Prop :=
  ge = E ∧ (E ≠ 0 → gx = 0 ∧ gy = 0 ∧ gv = 0 ∧ gh = 0 ∧ ga = none ∧ m = 0 ∧ gc = 0) ∧ (E = 0 → x = gx ∧ y = gy ∧ v = gv ∧ h = gh ∧ n = m ∧ ∃ g, ga = some ⟨g, 0, none⟩ ∧ g < w.heap.size ∧ Row w g 0 n F)
theorem FrOf.past {E x y v h : Int} {n : Nat} {F : Nat → Nat} {W w : World} {gx gy gv gh : Int} {ga : Option Addr} {m gc : Nat} {ge : Int} (k : FrOf E x y v h n F W gx gy gv gh ga m gc ge) (hb : Below W.heap.size W w) : FrOf E x y v h n F w gx gy gv gh ga m gc ge :=
  ⟨k.1, k.2.1, fun e => by
    obtain ⟨h1, h2, h3, h4, h5, g, h6, h7, h8⟩ := k.2.2 e
    exact ⟨h1, h2, h3, h4, h5, g, h6, Nat.lt_of_lt_of_le h7 hb.size, h8.past hb⟩⟩
theorem apE_zero {ec how ef : Int} (h : apE ec how ef = 0) : ec = 0 ∧ (how = 1 ∨ how = 2) ∧ ef = 0 := by
  obtain ⟨h1, h2⟩ := firstE_zero h
  obtain ⟨h3, h4⟩ := firstE_zero h2
  refine ⟨h1, ?_, h4⟩
  cases hi : inB how 1 2
  · rw [hi] at h3; cases h3
  · have := inB_iff.1 hi; omega
theorem Apply_all (sa : Int) (la ha : Nat) (aa : Option Addr) (na ca : Nat) (fa : Nat → Nat) (how : Int) (x y v h : Int) (a : Option Addr) (n cap : Nat) (fs : Nat → Nat) (w : World) (ia : CubIn w sa la ha aa na ca fa) (ib : FraIn w x y v h a n cap fs) :
    Calls Try.prog 109 #[.agg #[.int .i64 sa, .float .f32 la, .float .f32 ha, .slice aa na ca], .int .i64 how, .agg #[.int .i64 x, .int .i64 y, .int .i64 v, .int .i64 h, .slice a n cap]] w fun e w' => (∃ gx gy gv gh ga m gc ge, e = .returned (.tuple #[.agg #[.int .i64 gx, .int .i64 gy, .int .i64 gv, .int .i64 gh, .slice ga m gc], .int .i64 ge]) ∧
      FrOf (apE (cubErr sa la ha na) how (fraErr x y v h n)) x y v h n (fun i => howG how sa.toNat la ha fa fs (i / 4) (i % 4)) w' gx gy gv gh ga m gc ge) ∧ Below w.heap.size w w' := by
  by_cases hE : apE (cubErr sa la ha na) how (fraErr x y v h n) = 0
  · obtain ⟨h1, h2, h3⟩ := apE_zero hE
    rw [hE]
    obtain ⟨b, off, rfl, hca, hra⟩ := ia h1
    obtain ⟨b', off', rfl, hcb, hcm, hrb⟩ := ib h3
    obtain ⟨S, rfl⟩ := cub_size h1
    rcases h2 with rfl | rfl
    · refine (Apply_tetra S la ha b off na ca fa x y v h b' off' n cap fs w h1 hca hra h3 hrb).mono ?_
      rintro e w' ⟨g, rfl, hg, hcell, hbl⟩
      exact ⟨⟨_, _, _, _, _, _, _, _, rfl, rfl, fun h => absurd rfl h, fun _ => ⟨rfl, rfl, rfl, rfl, rfl, g, rfl, hg, fun i hi => by rw [Nat.zero_add]; exact hcell i hi⟩⟩, hbl⟩
    · refine (Apply_linear S la ha b off na ca fa x y v h b' off' n cap fs w h1 hca hra h3 hrb).mono ?_
      rintro e w' ⟨g, rfl, hg, hcell, hbl⟩
      exact ⟨⟨_, _, _, _, _, _, _, _, rfl, rfl, fun h => absurd rfl h, fun _ => ⟨rfl, rfl, rfl, rfl, rfl, g, rfl, hg, fun i hi => by rw [Nat.zero_add]; exact hcell i hi⟩⟩, hbl⟩
  · refine (Apply_no sa la ha aa na ca how x y v h a n cap w hE).mono ?_
    rintro e w' ⟨rfl, hbl⟩
    exact ⟨⟨_, _, _, _, _, _, _, _, rfl, rfl, fun _ => ⟨rfl, rfl, rfl, rfl, rfl, rfl, rfl⟩, fun h => absurd h hE⟩, hbl⟩
theorem ca_maker (sa : Int) (la ha : Nat) (aa : Option Addr) (na ca : Nat) (fa : Nat → Nat) (how : Int) (x y v h : Int) (a : Option Addr) (n cap : Nat) (fs : Nat → Nat) (pc ph pf : Nat) (w : World) (ia : CubIn w sa la ha aa na ca fa) (ib : FraIn w x y v h a n cap fs) (h1 : cubErr sa la ha na = 0) (h2 : how = 1 ∨ how = 2) (h3 : fraErr x y v h n = 0)
    (hC : Blk w pc [.int .i64 sa, .float .f32 la, .float .f32 ha, .slice aa na ca]) (hH : Blk w ph [.int .i64 how]) (hF : Blk w pf [.int .i64 x, .int .i64 y, .int .i64 v, .int .i64 h, .slice a n cap]) :
    MakerOK 112 #[.pointer (some ⟨ph, 0, none⟩), .pointer (some ⟨pc, 0, none⟩), .pointer (some ⟨pf, 0, none⟩)] w x y v h (fun k m => howG how sa.toNat la ha fa fs k m) := by
  obtain ⟨b, off, rfl, hca, hra⟩ := ia h1
  obtain ⟨b', off', rfl, hcb, hcm, hrb⟩ := ib h3
  obtain ⟨S, rfl⟩ := cub_size h1
  obtain ⟨hr, hl⟩ := fraErr_ok h3
  have l1 := hra.lt (cub_pos h1).1
  have l2 := hrb.lt (fra_pos h3).1
  intro i j w' hi hj hb'
  rcases h2 with rfl | rfl
  · refine (ca_tetra S la ha b off na ca fa x y v h b' off' n cap fs ph pc pf i j w' h1 (hra.below hb' l1) hr hl hcb hcm hi hj (hrb.below hb' l2) ((hH.past hb').c 0 _ rfl) (hC.past hb') (hF.past hb')).mono ?_
    rintro e w'' ⟨⟨q, rfl, hq⟩, hb⟩
    exact ⟨⟨q, rfl, fun c _ => by rw [hq]; exact tet_cn _ _ _ _ _ _⟩, hb⟩
  · refine (ca_linear S la ha b off na ca fa x y v h b' off' n cap fs ph pc pf i j w' h1 (hra.below hb' l1) hr hl hcb hcm hi hj (hrb.below hb' l2) ((hH.past hb').c 0 _ rfl) (hC.past hb') (hF.past hb')).mono ?_
    rintro e w'' ⟨⟨q, rfl, hq⟩, hb⟩
    exact ⟨⟨q, rfl, fun c _ => by rw [hq]; exact lin_cn _ _ _ _ _ _⟩, hb⟩
/-- What Identity hands back. -/
theorem Identity_all (T : Int) (w : World) : Calls Try.prog 110 #[.int .i64 T] w fun e w' => (∃ cs cl ch cA m cc ce, e = .returned (.tuple #[.agg #[.int .i64 cs, .float .f32 cl, .float .f32 ch, .slice cA m cc], .int .i64 ce]) ∧
      ResOf (whenE (!inB T 2 17) 3) T 0 1065353216 (3 * (T.toNat * T.toNat * T.toNat)) (idF T.toNat) w' cs cl ch cA m cc ce) ∧ Below w.heap.size w w' := by
  by_cases h : 2 ≤ T ∧ T ≤ 17
  · rw [show whenE (!inB T 2 17) 3 = 0 by rw [inB_t h]; rfl]
    obtain ⟨t, rfl⟩ : ∃ t : Nat, T = t := ⟨T.toNat, by omega⟩
    refine (Identity_yes t w (by omega)).mono ?_
    rintro e w' ⟨g, cap', rfl, -, hg, -, -, hrow, hbl⟩
    exact ⟨⟨_, _, _, _, _, _, _, rfl, ResOf.yes hg hrow⟩, hbl⟩
  · rw [show whenE (!inB T 2 17) 3 = 3 by rw [inB_f (by omega)]; rfl]
    refine (Identity_no T w h).mono ?_
    rintro e w' ⟨rfl, hbl⟩
    exact ⟨⟨_, _, _, _, _, _, _, rfl, ResOf.no (by decide)⟩, hbl⟩
theorem IdentityOf_int (T : Int) (n : Nat) (w : World) (hT : 2 ≤ T ∧ T ≤ 17) (hn : n = 3 * (T.toNat * T.toNat * T.toNat)) : Calls Try.prog 111 #[.int .i64 T] w fun e w' =>
    ∃ g cap : Nat, e = .returned (.agg #[.int .i64 T, .float .f32 0, .float .f32 1065353216, .slice (some ⟨g, 0, none⟩) n cap]) ∧ g < w'.heap.size ∧ Row w' g 0 n (idF T.toNat) ∧ Below w.heap.size w w' := by
  obtain ⟨t, rfl⟩ : ∃ t : Nat, T = t := ⟨T.toNat, by omega⟩
  subst hn
  exact IdentityOf_yes t w (by omega)
end Go.Proofs.Ytkmjboffjhcoaaa

/- CubesCompose: what the program's three functions hand back, right or wrong; little. Conditions: what came in is known where it is right. -/
import Derived.Test.YtmckkgbdlgldbaaCpE
import Derived.Test.YtmckkgbdlgldbaaBO
namespace Go.Proofs.Ytmckkgbdlgldbaa
open Go Go.RowKit
/-- A cube that came in: where it is right its singles are known. -/
def CubIn (w : World) (s : Int) (lo hi : Nat) (a : Option Addr) (n c : Nat) (fs : Nat → Nat) : Prop := cubErr s lo hi n = 0 → ∃ b off, a = some ⟨b, off, none⟩ ∧ n ≤ c ∧ Row w b off n fs
theorem cub_size {s : Int} {lo hi n : Nat} (h : cubErr s lo hi n = 0) : ∃ S : Nat, s = S := by
  obtain ⟨⟨h1, h2⟩, -⟩ := cubErr_ok h
  exact ⟨s.toNat, by omega⟩
theorem cub_pos {s : Int} {lo hi n : Nat} (h : cubErr s lo hi n = 0) : 0 < n ∧ n ≤ 65536 := by
  obtain ⟨S, rfl⟩ := cub_size h
  obtain ⟨-, -, h1, h2, h3⟩ := cub_ok_nat h
  omega
theorem CubIn.of {w : World} {s : Int} {lo hi : Nat} {a : Option Addr} {n c : Nat} {fs : Nat → Nat} (h : IsFloats w a n c fs) : CubIn w s lo hi a n c fs := fun he => by
  have hp := cub_pos he
  rcases h with ⟨hz, -⟩ | ⟨b, off, rfl, -, hcap, hm, hcell⟩
  · omega
  · exact ⟨b, off, rfl, hcap, fun i hi => (hcell i (by omega)).1⟩
theorem CubIn.below {W w : World} {m : Nat} {s : Int} {lo hi : Nat} {a : Option Addr} {n c : Nat} {fs : Nat → Nat} (k : CubIn W s lo hi a n c fs) (hb : Below m W w) (hm : W.heap.size ≤ m) : CubIn w s lo hi a n c fs := fun he => by
  obtain ⟨b, off, h1, h2, h3⟩ := k he
  have := h3.lt (cub_pos he).1
  exact ⟨b, off, h1, h2, h3.below hb (by omega)⟩
/-- What a maker of cubes hands back: nothing and its error, or a cube of the singles F. -/
def ResOf (E s : Int) (lo hi n : Nat) (F : Nat → Nat) (w : World) (cs : Int) (cl ch : Nat) (ca : Option Addr) (m cc : Nat) (ce : Int) : Prop :=
  ce = E ∧ (E ≠ 0 → cs = 0 ∧ cl = 0 ∧ ch = 0 ∧ ca = none ∧ m = 0 ∧ cc = 0) ∧ (E = 0 → s = cs ∧ lo = cl ∧ hi = ch ∧ n = m ∧ ∃ g, ca = some ⟨g, 0, none⟩ ∧ g < w.heap.size ∧ Row w g 0 n F)
theorem ResOf.past {E s : Int} {lo hi n : Nat} {F : Nat → Nat} {W w : World} {cs : Int} {cl ch : Nat} {ca : Option Addr} {m cc : Nat} {ce : Int} (k : ResOf E s lo hi n F W cs cl ch ca m cc ce) (hb : Below W.heap.size W w) : ResOf E s lo hi n F w cs cl ch ca m cc ce :=
  ⟨k.1, k.2.1, fun h => by
    obtain ⟨h1, h2, h3, h4, g, h5, h6, h7⟩ := k.2.2 h
    exact ⟨h1, h2, h3, h4, g, h5, Nat.lt_of_lt_of_le h6 hb.size, h7.past hb⟩⟩
theorem ResOf.no {E s : Int} {lo hi n : Nat} {F : Nat → Nat} {w : World} (h : E ≠ 0) : ResOf E s lo hi n F w 0 0 0 none 0 0 E := ⟨rfl, fun _ => ⟨rfl, rfl, rfl, rfl, rfl, rfl⟩, fun h' => absurd h' h⟩
theorem ResOf.yes {s : Int} {lo hi n : Nat} {F : Nat → Nat} {w : World} {g c : Nat} (h1 : g < w.heap.size) (h2 : Row w g 0 n F) : ResOf 0 s lo hi n F w s lo hi (some ⟨g, 0, none⟩) n c 0 := ⟨rfl, fun h => absurd rfl h, fun _ => ⟨rfl, rfl, rfl, rfl, g, rfl, h1, h2⟩⟩
theorem firstE_zero {a b : Int} (h : firstE a b = 0) : a = 0 ∧ b = 0 := by
  unfold firstE at h; split at h
  · exact ⟨by assumption, h⟩
  · contradiction
theorem Compose_all (sa : Int) (la ha : Nat) (aa : Option Addr) (na ca : Nat) (fa : Nat → Nat) (sb : Int) (lb hb : Nat) (ab : Option Addr) (nb cb : Nat) (fb : Nat → Nat) (w : World) (ia : CubIn w sa la ha aa na ca fa) (ib : CubIn w sb lb hb ab nb cb fb) :
    Calls Try.prog 104 #[.agg #[.int .i64 sa, .float .f32 la, .float .f32 ha, .slice aa na ca], .agg #[.int .i64 sb, .float .f32 lb, .float .f32 hb, .slice ab nb cb]] w fun e w' => (∃ cs cl ch cA m cc ce, e = .returned (.tuple #[.agg #[.int .i64 cs, .float .f32 cl, .float .f32 ch, .slice cA m cc], .int .i64 ce]) ∧
      ResOf (firstE (cubErr sa la ha na) (cubErr sb lb hb nb)) sa la ha na (fun x => cpoG sb.toNat lb hb fb fa (x / 3) (x % 3)) w' cs cl ch cA m cc ce) ∧ Below w.heap.size w w' := by
  by_cases h : firstE (cubErr sa la ha na) (cubErr sb lb hb nb) = 0
  · obtain ⟨h1, h2⟩ := firstE_zero h
    rw [h]
    obtain ⟨b, off, rfl, hca, hra⟩ := ia h1
    obtain ⟨b', off', rfl, hcb, hrb⟩ := ib h2
    obtain ⟨S, rfl⟩ := cub_size h1
    obtain ⟨T, rfl⟩ := cub_size h2
    refine (Compose_yes S la ha b off na ca fa T lb hb b' off' nb cb fb w h1 h2 hca hra hcb hrb).mono ?_
    rintro e w' ⟨g, cap', rfl, hg, hrow, hbl⟩
    exact ⟨⟨_, _, _, _, _, _, _, rfl, ResOf.yes hg hrow⟩, hbl⟩
  · refine (Compose_no sa la ha aa na ca sb lb hb ab nb cb w h).mono ?_
    rintro e w' ⟨rfl, hbl⟩
    exact ⟨⟨_, _, _, _, _, _, _, rfl, ResOf.no h⟩, hbl⟩
theorem Resize_all (sa : Int) (la ha : Nat) (aa : Option Addr) (na ca : Nat) (fa : Nat → Nat) (T : Int) (w : World) (ia : CubIn w sa la ha aa na ca fa) :
    Calls Try.prog 105 #[.agg #[.int .i64 sa, .float .f32 la, .float .f32 ha, .slice aa na ca], .int .i64 T] w fun e w' => (∃ cs cl ch cA m cc ce, e = .returned (.tuple #[.agg #[.int .i64 cs, .float .f32 cl, .float .f32 ch, .slice cA m cc], .int .i64 ce]) ∧
      ResOf (rzE (cubErr sa la ha na) T) T la ha (3 * (T.toNat * T.toNat * T.toNat)) (fun x => rzG sa.toNat la ha T.toNat fa (x / 3) (x % 3)) w' cs cl ch cA m cc ce) ∧ Below w.heap.size w w' := by
  by_cases h : rzE (cubErr sa la ha na) T = 0
  · obtain ⟨h1, h2⟩ := firstE_zero h
    rw [h]
    obtain ⟨b, off, rfl, hca, hra⟩ := ia h1
    obtain ⟨S, rfl⟩ := cub_size h1
    have hT : 2 ≤ T ∧ T ≤ 17 := by
      cases hi : inB T 2 17
      · rw [hi] at h2; cases h2
      · exact inB_iff.1 hi
    obtain ⟨t, rfl⟩ : ∃ t : Nat, T = t := ⟨T.toNat, by omega⟩
    refine (Resize_yes S la ha b off na ca fa t w h1 (by omega) hca hra).mono ?_
    rintro e w' ⟨g, cap', rfl, hg, hrow, hbl⟩
    exact ⟨⟨_, _, _, _, _, _, _, rfl, ResOf.yes hg hrow⟩, hbl⟩
  · refine (Resize_no sa la ha aa na ca T w h).mono ?_
    rintro e w' ⟨rfl, hbl⟩
    exact ⟨⟨_, _, _, _, _, _, _, rfl, ResOf.no h⟩, hbl⟩
theorem Blend_all (sa : Int) (la ha : Nat) (aa : Option Addr) (na ca : Nat) (fa : Nat → Nat) (sb : Int) (lb hb : Nat) (ab : Option Addr) (nb cb : Nat) (fb : Nat → Nat) (t : Nat) (w : World) (ia : CubIn w sa la ha aa na ca fa) (ib : CubIn w sb lb hb ab nb cb fb) :
    Calls Try.prog 106 #[.agg #[.int .i64 sa, .float .f32 la, .float .f32 ha, .slice aa na ca], .agg #[.int .i64 sb, .float .f32 lb, .float .f32 hb, .slice ab nb cb], .float .f32 t] w fun e w' => (∃ cs cl ch cA m cc ce, e = .returned (.tuple #[.agg #[.int .i64 cs, .float .f32 cl, .float .f32 ch, .slice cA m cc], .int .i64 ce]) ∧
      ResOf (bothE (cubErr sa la ha na) (cubErr sb lb hb nb) (confB sa sb la lb ha hb)) sa la ha na (fun i => lerpF (fa i) (fb i) t) w' cs cl ch cA m cc ce) ∧ Below w.heap.size w w' := by
  by_cases h : bothE (cubErr sa la ha na) (cubErr sb lb hb nb) (confB sa sb la lb ha hb) = 0
  · obtain ⟨h0, h3⟩ := firstE_zero h
    obtain ⟨h1, h2⟩ := firstE_zero h0
    have hs : sa = sb := by
      cases hc : confB sa sb la lb ha hb
      · unfold confB at hc; simp at hc; exact hc.1.1
      · rw [hc] at h3; cases h3
    obtain ⟨b, off, rfl, hca, hra⟩ := ia h1
    obtain ⟨b', off', rfl, hcb, hrb⟩ := ib h2
    subst hs
    have hnn : nb = na := by
      have e1 := (cubErr_ok h1).2.1; have e2 := (cubErr_ok h2).2.1
      omega
    subst hnn
    obtain ⟨hp, hm⟩ := cub_pos h1
    have hE := h
    rw [h]
    refine (Blend_yes sa la ha b off nb ca fa sa lb hb b' off' cb fb t w hE hm hp hca hra hcb hrb).mono ?_
    rintro e w' ⟨g, rfl, hg, hrow, hbl⟩
    exact ⟨⟨_, _, _, _, _, _, _, rfl, ResOf.yes hg hrow⟩, hbl⟩
  · refine (Blend_no sa la ha aa na ca sb lb hb ab nb cb t w h).mono ?_
    rintro e w' ⟨rfl, hbl⟩
    exact ⟨⟨_, _, _, _, _, _, _, rfl, ResOf.no h⟩, hbl⟩
theorem little_any (sa : Int) (la ha : Nat) (aa : Option Addr) (na ca : Nat) (w : World) : Calls Try.prog 107 #[.agg #[.int .i64 sa, .float .f32 la, .float .f32 ha, .slice aa na ca]] w fun e w' => e = .returned (.bool (decide (sa ≤ 4))) ∧ Below w.heap.size w w' := by
  go_enter Try.func107, Try.ntmps107
  go_wp2_with fail
  go_ret
  exact ⟨rfl, by (repeat (first | exact Below.refl _ _ | assumption | (refine Below.setCell ?_ (by first | (simp; done) | (simp; omega) | omega) _) | (refine Below.drew ?_) | (refine below_drewN ?_ _) | (refine Below.alloc ?_ (by first | (simp; done) | (simp; omega) | omega) _) | (refine Below.trans ?_ (Below.mono (by assumption) (by first | (simp; done) | (simp; omega) | omega)))))⟩
theorem cub_n {s : Int} {lo hi n : Nat} (h : cubErr s lo hi n = 0) : n = 3 * (s.toNat * s.toNat * s.toNat) := by
  obtain ⟨S, rfl⟩ := cub_size h
  exact (cub_ok_nat h).2.2.1
theorem MadeOf_int (K : Nat) (caps : Array Value) (s : Int) (lo hi n : Nat) (G : Nat → Nat → Nat) (w : World) (hs : 2 ≤ s ∧ s ≤ 17) (hn : n = 3 * (s.toNat * s.toNat * s.toNat))
    (hent : ∀ args w, (callFunc K args).run Try.prog w = .ok (.enter K args) w) (hk : EntOK K caps w s.toNat G) :
    Calls Try.prog 38 #[.int .i64 s, .float .f32 lo, .float .f32 hi, .func (.func K) #[] caps] w fun e w' =>
      ∃ g cap : Nat, e = .returned (.agg #[.int .i64 s, .float .f32 lo, .float .f32 hi, .slice (some ⟨g, 0, none⟩) n cap]) ∧ w.heap.size ≤ g ∧ g < w'.heap.size ∧ Row w' g 0 n (fun i => G (i / 3) (i % 3)) ∧ Below w.heap.size w w' := by
  obtain ⟨S, rfl⟩ : ∃ S : Nat, s = S := ⟨s.toNat, by omega⟩
  subst hn
  refine (MadeOf_any K caps S lo hi G w (by omega) (by omega) hent hk).mono ?_
  rintro e w' ⟨g, cap, rfl, h1, h2, -, -, h3, h4⟩
  exact ⟨g, cap, rfl, h1, h2, h3, h4⟩
theorem cp_ent1 (sa : Int) (la ha : Nat) (aa : Option Addr) (na ca : Nat) (fa : Nat → Nat) (sb : Int) (lb hb : Nat) (ab : Option Addr) (nb cb : Nat) (fb : Nat → Nat) (pa pb : Nat) (w : World) (ia : CubIn w sa la ha aa na ca fa) (ib : CubIn w sb lb hb ab nb cb fb) (h1 : cubErr sa la ha na = 0) (h2 : cubErr sb lb hb nb = 0) (hA : Blk w pa [.int .i64 sa, .float .f32 la, .float .f32 ha, .slice aa na ca]) (hB : Blk w pb [.int .i64 sb, .float .f32 lb, .float .f32 hb, .slice ab nb cb]) :
    EntOK 108 #[.pointer (some ⟨pa, 0, none⟩), .pointer (some ⟨pb, 0, none⟩)] w sa.toNat (cpoG sb.toNat lb hb fb fa) := by
  obtain ⟨b, off, rfl, hca, hra⟩ := ia h1
  obtain ⟨b', off', rfl, hcb, hrb⟩ := ib h2
  obtain ⟨S, rfl⟩ := cub_size h1
  obtain ⟨T, rfl⟩ := cub_size h2
  obtain ⟨hS, hS0, hn, -, -⟩ := cub_ok_nat h1
  obtain ⟨hT, hT0, hnt, -, -⟩ := cub_ok_nat h2
  have l1 := hra.lt (cub_pos h1).1
  have l2 := hrb.lt (cub_pos h2).1
  exact fun i j k w' hi hj hk hb' => ComposeOf_c S i j k la ha b off na ca fa T lb hb b' off' nb cb fb pa pb w' hS hi hj hk hn (hra.below hb' l1) ⟨hT0, hT⟩ hnt (hrb.below hb' l2) (hA.past hb') (hB.past hb')
theorem cp_ent2 (sa : Int) (la ha : Nat) (aa : Option Addr) (na ca : Nat) (fa : Nat → Nat) (T : Int) (pa ps : Nat) (w : World) (ia : CubIn w sa la ha aa na ca fa) (h1 : cubErr sa la ha na = 0) (hT : 2 ≤ T ∧ T ≤ 17) (hA : Blk w pa [.int .i64 sa, .float .f32 la, .float .f32 ha, .slice aa na ca]) (hB : Blk w ps [.int .i64 T]) :
    EntOK 110 #[.pointer (some ⟨pa, 0, none⟩), .pointer (some ⟨ps, 0, none⟩)] w T.toNat (rzG sa.toNat la ha T.toNat fa) := by
  obtain ⟨b, off, rfl, hca, hra⟩ := ia h1
  obtain ⟨S, rfl⟩ := cub_size h1
  obtain ⟨t, rfl⟩ : ∃ t : Nat, T = t := ⟨T.toNat, by omega⟩
  obtain ⟨hS, hS0, hn, -, -⟩ := cub_ok_nat h1
  have l1 := hra.lt (cub_pos h1).1
  exact fun i j k w' hi hj hk hb' => ResizeOf_c t i j k S la ha b off na ca fa pa ps w' (by omega) hi hj hk ⟨hS0, hS⟩ hn (hra.below hb' l1) (hA.past hb') ((hB.past hb').c 0 _ rfl)
theorem sameCube_g (s : Int) (lo hi g h n k1 k2 : Nat) (F F' : Nat → Nat) (w : World) (hn : n ≤ 65536) (hn0 : 0 < n) (h1 : Row w g 0 n F) (h2 : Row w h 0 n F') (e : ∀ x, x < n → F x = F' x) :
    Calls Try.prog 42 #[.agg #[.int .i64 s, .float .f32 lo, .float .f32 hi, .slice (some ⟨g, 0, none⟩) n k1], .agg #[.int .i64 s, .float .f32 lo, .float .f32 hi, .slice (some ⟨h, 0, none⟩) n k2]] w fun e w' => e = .returned (.bool true) ∧ Below w.heap.size w w' :=
  sameCube_yes s lo hi g 0 h 0 n k1 k2 F w hn hn0 h1 (fun x hx => by rw [h2 x hx, e x hx])
def rowL (F : Nat → Nat) (N : Nat) : List Value := (List.range N).map fun j => .float .f32 (F j)
theorem rowL_succ (F : Nat → Nat) (N : Nat) : rowL F (N + 1) = rowL F N ++ [.float .f32 (F N)] := by
  unfold rowL; rw [List.range_succ]; simp
/-- What stands behind N singles of a cube that is laid one at a time: its variable at ny. -/
structure YR (V wr : World) (ny : Nat) (s : Int) (lo hi : Nat) (F : Nat → Nat) (N : Nat) (v : Value) : Prop where
  cub : Blk wr ny [.int .i64 s, .float .f32 lo, .float .f32 hi, v]
  own : wr.ownsRow (ny + 1) 38 1 v N (rowL F N)
  bel : Below V.heap.size V wr
  lay : V.heap.size ≤ ny
theorem YR.past {V wr w2 : World} {ny : Nat} {s : Int} {lo hi : Nat} {F : Nat → Nat} {N : Nat} {v : Value} (k : YR V wr ny s lo hi F N v) (hb : Below wr.heap.size wr w2) : YR V w2 ny s lo hi F N v :=
  ⟨k.cub.past hb, own_past k.own hb, k.bel.trans (hb.mono k.bel.size), k.lay⟩
theorem YR.app {V wr wa w1 : World} {ny : Nat} {s : Int} {lo hi : Nat} {F : Nat → Nat} {N : Nat} {v v' : Value} {x : Nat} (k0 : YR V wr ny s lo hi F N v) (hb : Below wr.heap.size wr wa) (hown : w1.ownsRow (ny + 1) 38 1 v' (N + 1) (rowL F N ++ [.float .f32 x])) (h0 : x = F N) (hg : wa.grownBy w1 v.ownBlock) :
    w1.cell? ⟨ny, 3, none⟩ = some v ∧ w1.frozen? ⟨ny, 3, none⟩ = false ∧ YR V (w1.setCell ⟨ny, 3, none⟩ v') ny s lo hi F (N + 1) v' := by
  have k := k0.past hb
  have blk := hg.block ny k.cub.lt (own_block k.own (by omega))
  refine ⟨(World.cell?_of_block blk).trans (k.cub.c 3 _ rfl), (World.frozen?_of_block blk).trans (k.cub.f _), (k.cub.block hg.size blk).set 3 v', ?_, ?_, k.lay⟩
  · rw [rowL_succ]; subst h0; exact own_far hown _ _ (by simp)
  · refine (k.bel.grown hg (by have := k.cub.lt; have := k.lay; omega) (fun j hj => ?_)).setCell k.lay _
    have := k.own.lt j hj
    have := k.lay
    omega
end Go.Proofs.Ytmckkgbdlgldbaa

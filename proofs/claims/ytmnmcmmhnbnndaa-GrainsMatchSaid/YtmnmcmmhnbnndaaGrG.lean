/- Grain of a pixel, in the document: dyeref2.GrainedOf. Conditions: a right size; places of 64 bits. -/
import Derived.Test.YtmnmcmmhnbnndaaGrF
namespace Go.Proofs.Ytmnmcmmhnbnndaa
open Go.RowKit
/-- What the calls of one hash hand back. -/
def GoPsi (size : Int) (f : FuncId) (args : Array Value) (u : Value) : Prop :=
  (f = 172 ∧ ∃ a : Int, args = #[.int .i64 a, .int .i64 size] ∧ u = .int .i64 (a / size)) ∨
  (f = 119 ∧ ∃ s x y n : Int, args = #[.int .u32 s, .int .i64 x, .int .i64 y, .int .i64 n] ∧ u = .int .u32 (hashZ s x y n)) ∨
  (f = 118 ∧ ∃ h : Int, args = #[.int .u32 h] ∧ u = .float .f32 (unitF h))
theorem go_fl {size a : Int} {u : Value} (h : GoPsi size 172 #[.int .i64 a, .int .i64 size] u) : u = .int .i64 (a / size) := by
  rcases h with ⟨-, b, h1, rfl⟩ | ⟨h, -⟩ | ⟨h, -⟩
  · simp at h1; rw [h1]
  · exact absurd h (by decide)
  · exact absurd h (by decide)
theorem go_ha {size s x y n : Int} {u : Value} (h : GoPsi size 119 #[.int .u32 s, .int .i64 x, .int .i64 y, .int .i64 n] u) : u = .int .u32 (hashZ s x y n) := by
  rcases h with ⟨h, -⟩ | ⟨-, s', x', y', n', h1, rfl⟩ | ⟨h, -⟩
  · exact absurd h (by decide)
  · simp at h1; obtain ⟨rfl, rfl, rfl, rfl⟩ := h1; rfl
  · exact absurd h (by decide)
theorem go_un {size hh : Int} {u : Value} (h : GoPsi size 118 #[.int .u32 hh] u) : u = .float .f32 (unitF hh) := by
  rcases h with ⟨h, -⟩ | ⟨h, -⟩ | ⟨-, h', h1, rfl⟩
  · exact absurd h (by decide)
  · exact absurd h (by decide)
  · simp at h1; rw [h1]
def LiPsi (args : Array Value) (u : Value) : Prop := ∃ v, args = #[.float .f32 v, .float .f32 0, .float .f32 1065353216] ∧ u = .float .f32 (limF v 0 1065353216)
theorem li_own {v : Nat} {u : Value} (h : LiPsi #[.float .f32 v, .float .f32 0, .float .f32 1065353216] u) : u = .float .f32 (limF v 0 1065353216) := by
  obtain ⟨v', h1, rfl⟩ := h
  simp at h1; rw [h1]
def FxPsi (args : Array Value) (u : Value) : Prop := ∃ v, args = #[.float .f32 v] ∧ u = .float .f32 (cn .f32 v)
theorem fx_own {v : Nat} {u : Value} (h : FxPsi #[.float .f32 v] u) : u = .float .f32 (cn .f32 v) := by
  obtain ⟨v', h1, rfl⟩ := h
  simp at h1; rw [h1]
/-- A block of four singles. -/
theorem row4 (w : World) (a b c d : Nat) (t : TypeId) : (w.alloc (.cells #[.float .f32 a, .float .f32 b, .float .f32 c, .float .f32 d] t)).rowIs w.heap.size t 4 (fun j => .float .f32 (pick4 a b c d j)) :=
  World.rowIs_alloc w #[.float .f32 a, .float .f32 b, .float .f32 c, .float .f32 d] t _ (fun i hi => by
    have hi : i < 4 := hi
    rcases (show i = 0 ∨ i = 1 ∨ i = 2 ∨ i = 3 by omega) with rfl | rfl | rfl | rfl <;> rfl)
/-- Of the document's pixel with grain, what stands behind c channels. -/
def grnK (G : Nat → Nat) (c : Nat) (j : Nat) : Value := .float .f32 (if j < c then G j else if j = 3 then G 3 else 0)
theorem uni_f {sd a b : Int} {c n : Nat} (hc : c < 3) (hn : n < 4) : uniF sd a b (chanZ false c) n = unitF (hashZ sd a b (4 * (c : Int) + n)) := by
  unfold uniF chanZ
  rw [if_neg (by decide), IntWalk.wrap64_in (4 * (c : Int)) (by omega), IntWalk.wrap64_in _ (by omega)]
theorem uni_t {sd a b : Int} {c n : Nat} (_ : c < 3) (hn : n < 4) : uniF sd a b (chanZ true c) n = unitF (hashZ sd a b n) := by
  unfold uniF chanZ
  have e : wrap64 (4 * 0) = 0 := by decide +kernel
  rw [if_pos rfl, e, Int.zero_add, IntWalk.wrap64_in _ (by omega)]
theorem grnP_lt {sd a b : Int} {mono : Bool} {s f : Nat} {p : Nat → Nat} {c : Nat} (h : c < 3) : grnP sd a b mono s f p c = grnF sd a b (chanZ mono c) s f (p c) := by
  rcases (show c = 0 ∨ c = 1 ∨ c = 2 by omega) with rfl | rfl | rfl <;> rfl
theorem grn_FR2 {sd a b c : Int} {s f v r1 r2 r3 r4 r5 r6 r7 r8 r9 r10 : Nat} (h1 : FR .f32 r1 (fop .add .f32 (cn .f32 (uniF sd a b c 0)) (cn .f32 (uniF sd a b c 1))))
    (h2 : FR .f32 r2 (fop .add .f32 (cn .f32 (uniF sd a b c 2)) (cn .f32 (uniF sd a b c 3))))
    (h3 : FR .f32 r3 (fop .add .f32 (cn .f32 r1) (cn .f32 r2))) (h4 : FR .f32 r4 (fop .mul .f32 (cn .f32 r3) (cn .f32 1056964608))) (h5 : FR .f32 r5 (fop .sub .f32 (cn .f32 r4) (cn .f32 1065353216)))
    (h6 : FR .f32 r6 (fop .mul .f32 (cn .f32 f) (cn .f32 v))) (h7 : FR .f32 r7 (fop .sub .f32 (cn .f32 1065353216) (cn .f32 r6))) (h8 : FR .f32 r8 (fop .mul .f32 (cn .f32 r5) (cn .f32 s)))
    (h9 : FR .f32 r9 (fop .mul .f32 (cn .f32 r8) (cn .f32 (limF r7 0 1065353216)))) (h10 : FR .f32 r10 (fop .add .f32 (cn .f32 v) (cn .f32 r9))) : cn .f32 r10 = grnF sd a b c s f v := by
  rw [h6.eq] at h7
  rw [limF_FR h7, h8.eq, h5.eq, h4.eq, h3.eq, h2.eq, h1.eq] at h9
  rw [h9.eq] at h10
  simp only [fop_cn_left, fop_cn_right] at h10
  unfold grnF noiF
  exact h10.eq
set_option maxRecDepth 100000 in
set_option maxHeartbeats 1600000 in
theorem GrainedOf_false (seed size : Int) (s f : Nat) (num x y : Int) (p : Nat → Nat) (w : World) (hs : 1 ≤ size ∧ size ≤ 16) (hx : -9223372036854775808 ≤ x ∧ x ≤ 9223372036854775807) (hy : -9223372036854775808 ≤ y ∧ y ≤ 9223372036854775807) :
    Calls Try.prog 85 #[.agg #[.int .u32 seed, .int .i64 size, .float .f32 s, .float .f32 f, .bool false], .int .i64 num, .int .i64 x, .int .i64 y, .agg #[.float .f32 (p 0), .float .f32 (p 1), .float .f32 (p 2), .float .f32 (p 3)]] w fun e w' =>
      (∃ q : Nat → Nat, e = .returned (.agg #[.float .f32 (q 0), .float .f32 (q 1), .float .f32 (q 2), .float .f32 (q 3)]) ∧ q = grnP (bits .xor .u32 seed (num % 4294967296)) (x / size) (y / size) false s f p) ∧ Below w.heap.size w w' := by
  have hs' := Lib.hid hs; have hx' := Lib.hid hx; have hy' := Lib.hid hy
  clear hs hx hy
  obtain ⟨sd, hsd⟩ : ∃ sd, sd = bits .xor .u32 seed (num % 4294967296) := ⟨_, rfl⟩
  rw [← hsd]
  have esd := hsd.symm; clear hsd
  go_enter Try.func85, Try.ntmps85
  go_wp2_with (first | (go_at_call 55; refine (Fix_any _ _).mono ?_; rintro e w' ⟨rfl, rfl⟩))
  obtain ⟨G, hG⟩ : ∃ G, G = grnP sd (x / size) (y / size) false s f p := ⟨_, rfl⟩
  have G3 : cn .f32 (p 3) = G 3 := by rw [hG]; rfl
  have HG := Lib.hid hG; clear hG
  obtain ⟨W, hW⟩ : ∃ W, W = (((w.alloc (.cells #[.int .u32 seed, .int .i64 size, .float .f32 s, .float .f32 f, .bool false] 113)).alloc (.cells #[.float .f32 (p 0), .float .f32 (p 1), .float .f32 (p 2), .float .f32 (p 3)] 55)).alloc (.cells #[.float .f32 0, .float .f32 0, .float .f32 0, .float .f32 0] 55)).alloc (.cells #[.float .f32 0, .float .f32 0, .float .f32 0, .float .f32 (cn .f32 (p 3))] 55) := ⟨_, rfl⟩
  have c0 : W.cell? ⟨w.heap.size, 0, none⟩ = some (.int .u32 seed) := by rw [hW]; simp [go_sem]
  have c1 : W.cell? ⟨w.heap.size, 1, none⟩ = some (.int .i64 size) := by rw [hW]; simp [go_sem]
  have c2 : W.cell? ⟨w.heap.size, 2, none⟩ = some (.float .f32 s) := by rw [hW]; simp [go_sem]
  have c3 : W.cell? ⟨w.heap.size, 3, none⟩ = some (.float .f32 f) := by rw [hW]; simp [go_sem]
  have c4 : W.cell? ⟨w.heap.size, 4, none⟩ = some (.bool false) := by rw [hW]; simp [go_sem]
  have P0 : W.rowIs (w.heap.size + 1) 55 4 (fun j => .float .f32 (pick4 (p 0) (p 1) (p 2) (p 3) j)) := by
    rw [hW]
    have := ((row4 (w.alloc (.cells #[.int .u32 seed, .int .i64 size, .float .f32 s, .float .f32 f, .bool false] 113)) (p 0) (p 1) (p 2) (p 3) 55).alloc (.cells #[.float .f32 0, .float .f32 0, .float .f32 0, .float .f32 0] 55)).alloc (.cells #[.float .f32 0, .float .f32 0, .float .f32 0, .float .f32 (cn .f32 (p 3))] 55)
    simpa using this
  have P1 : W.rowIs (w.heap.size + 1) 55 4 (fun j => .float .f32 (p j)) := P0.congr (fun i hi => by rcases (show i = 0 ∨ i = 1 ∨ i = 2 ∨ i = 3 by omega) with rfl | rfl | rfl | rfl <;> rfl)
  have Z0 : Pix4 W (w.heap.size + 1 + 1) 0 0 0 0 := by rw [hW]; exact ⟨by simp [go_sem], by simp [go_sem], by simp [go_sem], by simp [go_sem], fun o => by simp [go_sem]⟩
  have Q0 : W.rowIs (w.heap.size + 1 + 1 + 1) 55 4 (grnK G 0) := by
    have h := row4 (((w.alloc (.cells #[.int .u32 seed, .int .i64 size, .float .f32 s, .float .f32 f, .bool false] 113)).alloc (.cells #[.float .f32 (p 0), .float .f32 (p 1), .float .f32 (p 2), .float .f32 (p 3)] 55)).alloc (.cells #[.float .f32 0, .float .f32 0, .float .f32 0, .float .f32 0] 55)) 0 0 0 (cn .f32 (p 3)) 55
    rw [← hW] at h
    simp only [World.size_alloc] at h
    exact h.congr (fun i hi => by rcases (show i = 0 ∨ i = 1 ∨ i = 2 ∨ i = 3 by omega) with rfl | rfl | rfl | rfl <;> simp [pick4, grnK, G3])
  have B0 : Below w.heap.size w W := by rw [hW]; (repeat (first | exact Below.refl _ _ | assumption | (refine Below.setCell ?_ (by first | (simp; done) | (simp; omega) | omega) _) | (refine Below.drew ?_) | (refine below_drewN ?_ _) | (refine Below.alloc ?_ (by first | (simp; done) | (simp; omega) | omega) _) | (refine Below.trans ?_ (Below.mono (by assumption) (by first | (simp; done) | (simp; omega) | omega)))))
  have sW : W.heap.size = w.heap.size + 1 + 1 + 1 + 1 := by rw [hW]; simp
  rw [← hW]
  have CC := Lib.hid (And.intro c0 (And.intro c1 (And.intro c2 (And.intro c3 c4))))
  have SW := Lib.hid sW; have PP := Lib.hid P1; have ZZ := Lib.hid Z0; have BB := Lib.hid B0; have QQ := Lib.hid Q0
  clear hW c0 c1 c2 c3 c4 P0 P1 Z0 Q0 B0 sW G3
  go_loopw [22] (fun s22 wr => ∃ c : Nat, c ≤ 3 ∧ s22 = .int .i64 c ∧ wr.rowIs (w.heap.size + 1 + 1 + 1) 55 4 (grnK G c) ∧ W.grownBy wr (some (w.heap.size + 1 + 1 + 1))) (fun i _ => 3 - (intOf i).toNat)
  case atStart => exact ⟨0, by omega, rfl, QQ.out, World.grownBy.refl _ _⟩
  case round =>
    obtain ⟨c, hc3, rfl, hq, hgr⟩ := hrel
    have sW := SW.out
    have bk : ∀ b, b < w.heap.size + 1 + 1 + 1 → wr.heap[b]? = W.heap[b]? := fun b hb => hgr.block b (by omega) (by simp; omega)
    obtain ⟨c0, c1, c2, c3, c4⟩ := CC.out
    have d0 := (World.cell?_of_block (a := ⟨w.heap.size, 0, none⟩) (bk w.heap.size (by omega))).trans c0
    have d1 := (World.cell?_of_block (a := ⟨w.heap.size, 1, none⟩) (bk w.heap.size (by omega))).trans c1
    have d2 := (World.cell?_of_block (a := ⟨w.heap.size, 2, none⟩) (bk w.heap.size (by omega))).trans c2
    have d3 := (World.cell?_of_block (a := ⟨w.heap.size, 3, none⟩) (bk w.heap.size (by omega))).trans c3
    have d4 := (World.cell?_of_block (a := ⟨w.heap.size, 4, none⟩) (bk w.heap.size (by omega))).trans c4
    have P2 := PP.out.of_block (bk (w.heap.size + 1) (by omega))
    have hsr := hgr.size
    have wl : w.heap.size < wr.heap.size := by omega
    clear c0 c1 c2 c3 c4
    by_cases hc : c < 3
    · have pc := P2.cell (show c < 4 by omega)
      have HQ := Lib.hid hq; have HGR := Lib.hid hgr; have DD := Lib.hid (And.intro d0 (And.intro d1 (And.intro d2 d3))); have P3 := Lib.hid P2
      clear hq hgr bk P2
      have hci : (c : Int) < 3 := by omega
      go_wp2_with fail
      obtain ⟨V, hV⟩ : ∃ V, V = wr.alloc (.cells #[.float .f32 0, .float .f32 0, .float .f32 0, .float .f32 0] 54) := ⟨_, rfl⟩
      rw [← hV]
      have U0 : V.rowIs wr.heap.size 54 4 (fun _ => .float .f32 0) := by
        rw [hV]; exact (row4 wr 0 0 0 0 54).congr (fun i hi => by rcases (show i = 0 ∨ i = 1 ∨ i = 2 ∨ i = 3 by omega) with rfl | rfl | rfl | rfl <;> rfl)
      have BV : Below wr.heap.size wr V := by rw [hV]; (repeat (first | exact Below.refl _ _ | assumption | (refine Below.setCell ?_ (by first | (simp; done) | (simp; omega) | omega) _) | (refine Below.drew ?_) | (refine below_drewN ?_ _) | (refine Below.alloc ?_ (by first | (simp; done) | (simp; omega) | omega) _) | (refine Below.trans ?_ (Below.mono (by assumption) (by first | (simp; done) | (simp; omega) | omega)))))
      have sV : V.heap.size = wr.heap.size + 1 := by rw [hV]; simp
      have UU := Lib.hid U0; have BVH := Lib.hid BV; have SV := Lib.hid sV
      clear hV U0 BV sV d0 d1 d2 d3 d4 pc
      obtain ⟨wo, rfl⟩ : ∃ wo : World, wo = wr := ⟨_, rfl⟩
      go_loopw [28] (fun s28 wr => ∃ n : Nat, n ≤ 4 ∧ s28 = .int .i64 n ∧ wr.rowIs wo.heap.size 54 4 (fun j => .float .f32 (if j < n then uniF sd (x / size) (y / size) (chanZ false c) j else 0)) ∧ V.grownBy wr (some wo.heap.size)) (fun i _ => 4 - (intOf i).toNat)
      case atStart => exact ⟨0, by omega, rfl, UU.out.congr (fun j _ => by simp), World.grownBy.refl _ _⟩
      case round =>
        obtain ⟨n, hn4, rfl, hu, hgt⟩ := hrel
        have sV := SV.out
        have hst := hgt.size
        have bk2 : ∀ b, b < wo.heap.size → wr.heap[b]? = wo.heap[b]? := fun b hb => (hgt.block b (by omega) (by simp; omega)).trans (BVH.out.block b hb)
        obtain ⟨c0, c1, c2, c3⟩ := DD.out
        have d0 := (World.cell?_of_block (a := ⟨w.heap.size, 0, none⟩) (bk2 w.heap.size wl)).trans c0
        have d1 := (World.cell?_of_block (a := ⟨w.heap.size, 1, none⟩) (bk2 w.heap.size wl)).trans c1
        have d2 := (World.cell?_of_block (a := ⟨w.heap.size, 2, none⟩) (bk2 w.heap.size wl)).trans c2
        have d3 := (World.cell?_of_block (a := ⟨w.heap.size, 3, none⟩) (bk2 w.heap.size wl)).trans c3
        have wtl : w.heap.size < wr.heap.size := by omega
        have utl : wo.heap.size < wr.heap.size := by omega
        have HU := Lib.hid hu; have HGT := Lib.hid hgt
        clear c0 c1 c2 c3
        by_cases hn : n < 4
        · have hni : (n : Int) < 4 := by omega
          have w4 : IntKind.i64.wrap (4 * (c : Int)) = 4 * (c : Int) := by rw [IntKind.wrap_i64]; omega
          have w5 : IntKind.i64.wrap (4 * (c : Int) + n) = 4 * (c : Int) + n := by rw [IntKind.wrap_i64]; omega
          have w6 : IntKind.i64.wrap (n : Int) = n := by rw [IntKind.wrap_i64]; omega
          clear hu hgt bk2
          go_wp2_with fail
          refine wp_region_loose 21 (GoPsi size) (by kernel_rfl) (by kernel_rfl) ?_
          simp only [List.take_succ_cons, List.take_zero, List.drop_succ_cons, List.drop_zero]
          iterate 9 (refine loose_wanted rfl (fun K hK => ?_); go_simp; refine hK _ ?_; clear hK K)
          refine loose_wanted rfl (fun K1 hK => ?_)
          go_simp
          refine ⟨fun p => (floorOver_any _ _ p.w hx'.out hs'.out).mono ?_, ?_⟩
          · rintro e w' ⟨rfl, rfl⟩
            exact ⟨_, rfl, .inl ⟨rfl, _, rfl, rfl⟩, p.h⟩
          intro u hu
          obtain rfl := go_fl hu
          refine hK _ ?_
          clear hK K1 hu
          iterate 3 (refine loose_wanted rfl (fun K hK => ?_); go_simp; refine hK _ ?_; clear hK K)
          refine loose_wanted rfl (fun K1 hK => ?_)
          go_simp
          refine ⟨fun p => (floorOver_any _ _ p.w hy'.out hs'.out).mono ?_, ?_⟩
          · rintro e w' ⟨rfl, rfl⟩
            exact ⟨_, rfl, .inl ⟨rfl, _, rfl, rfl⟩, p.h⟩
          intro u hu
          obtain rfl := go_fl hu
          refine hK _ ?_
          clear hK K1 hu
          iterate 4 (refine loose_wanted rfl (fun K hK => ?_); go_simp; refine hK _ ?_; clear hK K)
          refine loose_wanted rfl (fun K1 hK => ?_)
          go_simp
          refine ⟨fun p => (HashOf_any _ _ _ _ p.w).mono ?_, ?_⟩
          · rintro e w' ⟨rfl, hb⟩
            exact ⟨_, rfl, .inr (.inl ⟨rfl, _, _, _, _, rfl, rfl⟩), p.h.trans (hb.mono p.h.size)⟩
          intro u hu
          obtain rfl := go_ha hu
          refine hK _ ?_
          clear hK K1 hu
          refine loose_wanted rfl (fun K1 hK => ?_)
          go_simp
          refine ⟨fun p => (UnitOf_any _ p.w (hashZ_bd _ _ _ _).1 (hashZ_bd _ _ _ _).2).mono ?_, ?_⟩
          · rintro e w' ⟨m, rfl, rfl⟩
            exact ⟨_, rfl, .inr (.inr ⟨rfl, _, rfl, rfl⟩), below_drewN p.h m⟩
          intro u hu
          obtain rfl := go_un hu
          refine hK _ ?_
          clear hK K1 hu
          iterate 1 (refine loose_wanted rfl (fun K hK => ?_); go_simp; refine hK _ ?_; clear hK K)
          refine loose_nil (fun w5 hb5 => ?_)
          have hR5 := HU.out.of_block (hb5.block wo.heap.size utl)
          have hG5 : V.grownBy w5 (some wo.heap.size) := grown_past HGT.out hb5
          have x5 : w5.cell? ⟨wo.heap.size, n, none⟩ = some (.float .f32 0) := by have := hR5.cell hn; rw [this]; simp
          have y5 : w5.frozen? ⟨wo.heap.size, n, none⟩ = false := hR5.frozen _
          have HR5 := Lib.hid hR5; have HG5 := Lib.hid hG5
          clear hR5 hG5 hb5
          go_wp2_with fail
          go_roundw
          case rel =>
            refine ⟨n + 1, by omega, by go_num, (HR5.out.set n _).congr (fun j hj => ?_), grown_set HG5.out _ _⟩
            by_cases hjk : j = n
            · subst hjk
              simp [uni_f (sd := sd) (a := x / size) (b := y / size) hc hn]
            · simp only [hjk, if_false]
              by_cases h : j < n
              · rw [if_pos h, if_pos (by omega)]
              · rw [if_neg h, if_neg (by omega)]
          case measure => simp [intOf]; omega
        · have hne : n = 4 := by omega
          subst hne
          have u0 := hu.cell (show 0 < 4 by omega)
          have u1 := hu.cell (show 1 < 4 by omega)
          have u2 := hu.cell (show 2 < 4 by omega)
          have u3 := hu.cell (show 3 < 4 by omega)
          have pc := (P3.out.of_block (bk2 (w.heap.size + 1) (by omega))).cell (show c < 4 by omega)
          have QR := HQ.out.of_block (bk2 (w.heap.size + 1 + 1 + 1) (by omega))
          have GR : W.grownBy wr (some (w.heap.size + 1 + 1 + 1)) := grown_past HGR.out ((BVH.out.grown hgt (by omega) (by intro j hj; cases hj; omega)))
          have HQR := Lib.hid QR; have HG2 := Lib.hid GR
          simp at u0 u1 u2 u3
          have pl : w.heap.size + 1 < wr.heap.size := by omega
          have ql : w.heap.size + 1 + 1 + 1 < wr.heap.size := by omega
          clear hu hgt bk2 QR GR d0 d1
          obtain ⟨pv, hpv⟩ : ∃ pv, pv = p c := ⟨_, rfl⟩
          rw [← hpv] at pc
          have HPV := Lib.hid hpv; clear hpv
          go_wp2_with (first | ((with_reducible apply wpList_farith); rfl; rfl; rfl; intro _ _ _) | ((with_reducible apply wpList_up); rfl; exact Try.underlying38; exact Try.underlying51; intro _ _ _))
          rename_i a1 _ _ a2 _ _ a3 _ _ a4 _ _ a5 _ _
          have A := Lib.hid (And.intro a1 (And.intro a2 (And.intro a3 (And.intro a4 a5))))
          clear a1 a2 a3 a4 a5
          generalize hW4 : wr.drewN _ = W4
          have e2 : W4.cell? ⟨w.heap.size, 2, none⟩ = some (.float .f32 s) := by rw [← hW4]; exact d2
          have e3 : W4.cell? ⟨w.heap.size, 3, none⟩ = some (.float .f32 f) := by rw [← hW4]; exact d3
          have ep : W4.cell? ⟨w.heap.size + 1, c, none⟩ = some (.float .f32 pv) := by rw [← hW4]; exact pc
          have QR : W4.rowIs (w.heap.size + 1 + 1 + 1) 55 4 (grnK G c) := by rw [← hW4]; exact HQR.out
          have GR : W.grownBy W4 (some (w.heap.size + 1 + 1 + 1)) := grown_past HG2.out (by rw [← hW4]; exact below_drewN (Below.refl _ _) _)
          have eq : W4.heap.size = wr.heap.size := by rw [← hW4]; simp
          have l0 : w.heap.size < W4.heap.size := by omega
          have l1 : w.heap.size + 1 < W4.heap.size := by omega
          have l3 : w.heap.size + 1 + 1 + 1 < W4.heap.size := by omega
          have HQ4 := Lib.hid QR; have HG4 := Lib.hid GR
          have E := Lib.hid (And.intro e2 ep)
          clear hW4 d2 d3 pc HQR HG2 QR GR eq u0 u1 u2 u3 wtl utl pl ql hst
          have cz : (0 : Int) ≤ (c : Int) := by omega
          have c4i : (c : Int) < 4 := by omega
          refine wp_region_loose 8 (fun _ args u => LiPsi args u) (by kernel_rfl) (by kernel_rfl) ?_
          simp only [List.take_succ_cons, List.take_zero, List.drop_succ_cons, List.drop_zero]
          iterate 5 (refine loose_wanted rfl (fun K hK => ?_); go_simp; refine hK _ ?_; clear hK K)
          (first | ((with_reducible apply loose_farith); rfl; rfl; rfl; rfl; intro _ _) | ((with_reducible apply loose_up); rfl; rfl; exact Try.underlying38; exact Try.underlying51; intro _ _))
          (first | ((with_reducible apply loose_farith); rfl; rfl; rfl; rfl; intro _ _) | ((with_reducible apply loose_up); rfl; rfl; exact Try.underlying38; exact Try.underlying51; intro _ _))
          rename_i a6 _ a7
          refine loose_wanted rfl (fun K1 hK => ?_)
          go_simp
          refine ⟨fun p => (LimitOf_any _ _ _ p.w).mono ?_, ?_⟩
          · rintro e w' ⟨rfl, rfl⟩
            exact ⟨_, rfl, ⟨_, rfl, rfl⟩, p.h⟩
          intro u hu
          obtain rfl := li_own hu
          refine hK _ ?_
          clear hK K1 hu
          refine loose_nil (fun w5 hb5 => ?_)
          clear e2 e3 ep
          have hlw := hb5.size
          have e2 := (hb5.cell (p := ⟨w.heap.size, 2, none⟩) l0).trans (E.out.1)
          have ep := (hb5.cell (p := ⟨w.heap.size + 1, c, none⟩) l1).trans (E.out.2)
          have QR := HQ4.out.of_block (hb5.block _ l3)
          have GR : W.grownBy w5 (some (w.heap.size + 1 + 1 + 1)) := grown_past HG4.out hb5
          have m0 : w.heap.size < w5.heap.size := by omega
          have m1 : w.heap.size + 1 < w5.heap.size := by omega
          have m3 : w.heap.size + 1 + 1 + 1 < w5.heap.size := by omega
          clear HQ4 HG4 hb5 l0 l1 l3 hlw E
          have HQ4 := Lib.hid QR; have HG4 := Lib.hid GR
          clear QR GR
          go_wp2_with fail
          refine wp_region_loose 13 (fun _ args u => FxPsi args u) (by kernel_rfl) (by kernel_rfl) ?_
          simp only [List.take_succ_cons, List.take_zero, List.drop_succ_cons, List.drop_zero]
          iterate 7 (refine loose_wanted rfl (fun K hK => ?_); go_simp; refine hK _ ?_; clear hK K)
          (first | ((with_reducible apply loose_farith); rfl; rfl; rfl; rfl; intro _ _) | ((with_reducible apply loose_up); rfl; rfl; exact Try.underlying38; exact Try.underlying51; intro _ _))
          iterate 1 (refine loose_wanted rfl (fun K hK => ?_); go_simp; refine hK _ ?_; clear hK K)
          (first | ((with_reducible apply loose_farith); rfl; rfl; rfl; rfl; intro _ _) | ((with_reducible apply loose_up); rfl; rfl; exact Try.underlying38; exact Try.underlying51; intro _ _))
          (first | ((with_reducible apply loose_farith); rfl; rfl; rfl; rfl; intro _ _) | ((with_reducible apply loose_up); rfl; rfl; exact Try.underlying38; exact Try.underlying51; intro _ _))
          rename_i a8 _ a9 _ a10
          refine loose_wanted rfl (fun K1 hK => ?_)
          go_simp
          refine ⟨fun p => (Fix_any _ p.w).mono ?_, ?_⟩
          · rintro e w' ⟨rfl, rfl⟩
            exact ⟨_, rfl, ⟨_, rfl, rfl⟩, p.h⟩
          intro u hu
          obtain rfl := fx_own hu
          refine hK _ ?_
          clear hK K1 hu
          iterate 1 (refine loose_wanted rfl (fun K hK => ?_); go_simp; refine hK _ ?_; clear hK K)
          refine loose_nil (fun w6 hb6 => ?_)
          obtain ⟨a1, a2, a3, a4, a5⟩ := A.out
          have RV : cn .f32 _ = G c := (grn_FR2 a1 a2 a3 a4 a5 a6 a7 a8 a9 a10).trans (by rw [HG.out, grnP_lt hc, HPV.out])
          clear a1 a2 a3 a4 a5 a6 a7 a8 a9 a10 A e2 ep
          have QR := HQ4.out.of_block (hb6.block _ m3)
          have GR : W.grownBy w6 (some (w.heap.size + 1 + 1 + 1)) := grown_past HG4.out hb6
          have x6 : w6.cell? ⟨w.heap.size + 1 + 1 + 1, c, none⟩ = some (.float .f32 0) := by
            have := QR.cell (show c < 4 by omega)
            rw [this]; unfold grnK; rw [if_neg (by omega), if_neg (by omega)]
          have y6 : w6.frozen? ⟨w.heap.size + 1 + 1 + 1, c, none⟩ = false := QR.frozen _
          have HQ6 := Lib.hid QR; have HG6 := Lib.hid GR
          clear QR GR hb6 HQ4 HG4
          go_wp2_with fail
          go_roundw
          case rel =>
            refine ⟨c + 1, by omega, by go_num, (HQ6.out.set c _).congr (fun j hj => ?_), grown_set HG6.out _ _⟩
            unfold grnK
            by_cases hjk : j = c
            · subst hjk
              rw [if_pos rfl, if_pos (by omega)]
            · rw [if_neg hjk]
              by_cases h : j < c
              · rw [if_pos h, if_pos (by omega)]
              · rw [if_neg h, if_neg (show ¬ j < c + 1 by omega)]
          case measure => simp [intOf]; omega
    · have hce : c = 3 := by omega
      subst hce
      have q0 := hq.cell (show 0 < 4 by omega)
      have q1 := hq.cell (show 1 < 4 by omega)
      have q2 := hq.cell (show 2 < 4 by omega)
      have q3 := hq.cell (show 3 < 4 by omega)
      simp [grnK] at q0 q1 q2 q3
      have Z1 : Pix4 wr (w.heap.size + 1 + 1) 0 0 0 0 := by
        have h := ZZ.out
        have bb := bk (w.heap.size + 1 + 1) (by omega)
        exact ⟨(World.cell?_of_block bb).trans h.c0, (World.cell?_of_block bb).trans h.c1, (World.cell?_of_block bb).trans h.c2, (World.cell?_of_block bb).trans h.c3, fun o => (World.frozen?_of_block bb).trans (h.f o)⟩
      have B1 : Below w.heap.size w wr := BB.out.grown hgr (by omega) (by intro j hj; cases hj; omega)
      clear hq hgr bk P2 d0 d1 d2 d3 d4
      obtain ⟨z0, z1, z2, z3, zf⟩ := Z1
      go_wp2_with fail
      refine bodyPost_ret (v := .agg #[.float .f32 (G 0), .float .f32 (G 1), .float .f32 (G 2), .float .f32 (G 3)]) (by simp [results, Try.results85, go_sem, z0, z1, z2, z3]) rfl ⟨⟨G, rfl, HG.out⟩, ?_⟩
      exact (((B1.setCell (by first | (simp; done) | (simp; omega) | omega) _).setCell (by first | (simp; done) | (simp; omega) | omega) _).setCell (by first | (simp; done) | (simp; omega) | omega) _).setCell (by first | (simp; done) | (simp; omega) | omega) _
set_option maxRecDepth 100000 in
set_option maxHeartbeats 1600000 in
theorem GrainedOf_true (seed size : Int) (s f : Nat) (num x y : Int) (p : Nat → Nat) (w : World) (hs : 1 ≤ size ∧ size ≤ 16) (hx : -9223372036854775808 ≤ x ∧ x ≤ 9223372036854775807) (hy : -9223372036854775808 ≤ y ∧ y ≤ 9223372036854775807) :
    Calls Try.prog 85 #[.agg #[.int .u32 seed, .int .i64 size, .float .f32 s, .float .f32 f, .bool true], .int .i64 num, .int .i64 x, .int .i64 y, .agg #[.float .f32 (p 0), .float .f32 (p 1), .float .f32 (p 2), .float .f32 (p 3)]] w fun e w' =>
      (∃ q : Nat → Nat, e = .returned (.agg #[.float .f32 (q 0), .float .f32 (q 1), .float .f32 (q 2), .float .f32 (q 3)]) ∧ q = grnP (bits .xor .u32 seed (num % 4294967296)) (x / size) (y / size) true s f p) ∧ Below w.heap.size w w' := by
  have hs' := Lib.hid hs; have hx' := Lib.hid hx; have hy' := Lib.hid hy
  clear hs hx hy
  obtain ⟨sd, hsd⟩ : ∃ sd, sd = bits .xor .u32 seed (num % 4294967296) := ⟨_, rfl⟩
  rw [← hsd]
  have esd := hsd.symm; clear hsd
  go_enter Try.func85, Try.ntmps85
  go_wp2_with (first | (go_at_call 55; refine (Fix_any _ _).mono ?_; rintro e w' ⟨rfl, rfl⟩))
  obtain ⟨G, hG⟩ : ∃ G, G = grnP sd (x / size) (y / size) true s f p := ⟨_, rfl⟩
  have G3 : cn .f32 (p 3) = G 3 := by rw [hG]; rfl
  have HG := Lib.hid hG; clear hG
  obtain ⟨W, hW⟩ : ∃ W, W = (((w.alloc (.cells #[.int .u32 seed, .int .i64 size, .float .f32 s, .float .f32 f, .bool true] 113)).alloc (.cells #[.float .f32 (p 0), .float .f32 (p 1), .float .f32 (p 2), .float .f32 (p 3)] 55)).alloc (.cells #[.float .f32 0, .float .f32 0, .float .f32 0, .float .f32 0] 55)).alloc (.cells #[.float .f32 0, .float .f32 0, .float .f32 0, .float .f32 (cn .f32 (p 3))] 55) := ⟨_, rfl⟩
  have c0 : W.cell? ⟨w.heap.size, 0, none⟩ = some (.int .u32 seed) := by rw [hW]; simp [go_sem]
  have c1 : W.cell? ⟨w.heap.size, 1, none⟩ = some (.int .i64 size) := by rw [hW]; simp [go_sem]
  have c2 : W.cell? ⟨w.heap.size, 2, none⟩ = some (.float .f32 s) := by rw [hW]; simp [go_sem]
  have c3 : W.cell? ⟨w.heap.size, 3, none⟩ = some (.float .f32 f) := by rw [hW]; simp [go_sem]
  have c4 : W.cell? ⟨w.heap.size, 4, none⟩ = some (.bool true) := by rw [hW]; simp [go_sem]
  have P0 : W.rowIs (w.heap.size + 1) 55 4 (fun j => .float .f32 (pick4 (p 0) (p 1) (p 2) (p 3) j)) := by
    rw [hW]
    have := ((row4 (w.alloc (.cells #[.int .u32 seed, .int .i64 size, .float .f32 s, .float .f32 f, .bool true] 113)) (p 0) (p 1) (p 2) (p 3) 55).alloc (.cells #[.float .f32 0, .float .f32 0, .float .f32 0, .float .f32 0] 55)).alloc (.cells #[.float .f32 0, .float .f32 0, .float .f32 0, .float .f32 (cn .f32 (p 3))] 55)
    simpa using this
  have P1 : W.rowIs (w.heap.size + 1) 55 4 (fun j => .float .f32 (p j)) := P0.congr (fun i hi => by rcases (show i = 0 ∨ i = 1 ∨ i = 2 ∨ i = 3 by omega) with rfl | rfl | rfl | rfl <;> rfl)
  have Z0 : Pix4 W (w.heap.size + 1 + 1) 0 0 0 0 := by rw [hW]; exact ⟨by simp [go_sem], by simp [go_sem], by simp [go_sem], by simp [go_sem], fun o => by simp [go_sem]⟩
  have Q0 : W.rowIs (w.heap.size + 1 + 1 + 1) 55 4 (grnK G 0) := by
    have h := row4 (((w.alloc (.cells #[.int .u32 seed, .int .i64 size, .float .f32 s, .float .f32 f, .bool true] 113)).alloc (.cells #[.float .f32 (p 0), .float .f32 (p 1), .float .f32 (p 2), .float .f32 (p 3)] 55)).alloc (.cells #[.float .f32 0, .float .f32 0, .float .f32 0, .float .f32 0] 55)) 0 0 0 (cn .f32 (p 3)) 55
    rw [← hW] at h
    simp only [World.size_alloc] at h
    exact h.congr (fun i hi => by rcases (show i = 0 ∨ i = 1 ∨ i = 2 ∨ i = 3 by omega) with rfl | rfl | rfl | rfl <;> simp [pick4, grnK, G3])
  have B0 : Below w.heap.size w W := by rw [hW]; (repeat (first | exact Below.refl _ _ | assumption | (refine Below.setCell ?_ (by first | (simp; done) | (simp; omega) | omega) _) | (refine Below.drew ?_) | (refine below_drewN ?_ _) | (refine Below.alloc ?_ (by first | (simp; done) | (simp; omega) | omega) _) | (refine Below.trans ?_ (Below.mono (by assumption) (by first | (simp; done) | (simp; omega) | omega)))))
  have sW : W.heap.size = w.heap.size + 1 + 1 + 1 + 1 := by rw [hW]; simp
  rw [← hW]
  have CC := Lib.hid (And.intro c0 (And.intro c1 (And.intro c2 (And.intro c3 c4))))
  have SW := Lib.hid sW; have PP := Lib.hid P1; have ZZ := Lib.hid Z0; have BB := Lib.hid B0; have QQ := Lib.hid Q0
  clear hW c0 c1 c2 c3 c4 P0 P1 Z0 Q0 B0 sW G3
  go_loopw [22] (fun s22 wr => ∃ c : Nat, c ≤ 3 ∧ s22 = .int .i64 c ∧ wr.rowIs (w.heap.size + 1 + 1 + 1) 55 4 (grnK G c) ∧ W.grownBy wr (some (w.heap.size + 1 + 1 + 1))) (fun i _ => 3 - (intOf i).toNat)
  case atStart => exact ⟨0, by omega, rfl, QQ.out, World.grownBy.refl _ _⟩
  case round =>
    obtain ⟨c, hc3, rfl, hq, hgr⟩ := hrel
    have sW := SW.out
    have bk : ∀ b, b < w.heap.size + 1 + 1 + 1 → wr.heap[b]? = W.heap[b]? := fun b hb => hgr.block b (by omega) (by simp; omega)
    obtain ⟨c0, c1, c2, c3, c4⟩ := CC.out
    have d0 := (World.cell?_of_block (a := ⟨w.heap.size, 0, none⟩) (bk w.heap.size (by omega))).trans c0
    have d1 := (World.cell?_of_block (a := ⟨w.heap.size, 1, none⟩) (bk w.heap.size (by omega))).trans c1
    have d2 := (World.cell?_of_block (a := ⟨w.heap.size, 2, none⟩) (bk w.heap.size (by omega))).trans c2
    have d3 := (World.cell?_of_block (a := ⟨w.heap.size, 3, none⟩) (bk w.heap.size (by omega))).trans c3
    have d4 := (World.cell?_of_block (a := ⟨w.heap.size, 4, none⟩) (bk w.heap.size (by omega))).trans c4
    have P2 := PP.out.of_block (bk (w.heap.size + 1) (by omega))
    have hsr := hgr.size
    have wl : w.heap.size < wr.heap.size := by omega
    clear c0 c1 c2 c3 c4
    by_cases hc : c < 3
    · have pc := P2.cell (show c < 4 by omega)
      have HQ := Lib.hid hq; have HGR := Lib.hid hgr; have DD := Lib.hid (And.intro d0 (And.intro d1 (And.intro d2 d3))); have P3 := Lib.hid P2
      clear hq hgr bk P2
      have hci : (c : Int) < 3 := by omega
      go_wp2_with fail
      obtain ⟨V, hV⟩ : ∃ V, V = wr.alloc (.cells #[.float .f32 0, .float .f32 0, .float .f32 0, .float .f32 0] 54) := ⟨_, rfl⟩
      rw [← hV]
      have U0 : V.rowIs wr.heap.size 54 4 (fun _ => .float .f32 0) := by
        rw [hV]; exact (row4 wr 0 0 0 0 54).congr (fun i hi => by rcases (show i = 0 ∨ i = 1 ∨ i = 2 ∨ i = 3 by omega) with rfl | rfl | rfl | rfl <;> rfl)
      have BV : Below wr.heap.size wr V := by rw [hV]; (repeat (first | exact Below.refl _ _ | assumption | (refine Below.setCell ?_ (by first | (simp; done) | (simp; omega) | omega) _) | (refine Below.drew ?_) | (refine below_drewN ?_ _) | (refine Below.alloc ?_ (by first | (simp; done) | (simp; omega) | omega) _) | (refine Below.trans ?_ (Below.mono (by assumption) (by first | (simp; done) | (simp; omega) | omega)))))
      have sV : V.heap.size = wr.heap.size + 1 := by rw [hV]; simp
      have UU := Lib.hid U0; have BVH := Lib.hid BV; have SV := Lib.hid sV
      clear hV U0 BV sV d0 d1 d2 d3 d4 pc
      obtain ⟨wo, rfl⟩ : ∃ wo : World, wo = wr := ⟨_, rfl⟩
      go_loopw [28] (fun s28 wr => ∃ n : Nat, n ≤ 4 ∧ s28 = .int .i64 n ∧ wr.rowIs wo.heap.size 54 4 (fun j => .float .f32 (if j < n then uniF sd (x / size) (y / size) (chanZ true c) j else 0)) ∧ V.grownBy wr (some wo.heap.size)) (fun i _ => 4 - (intOf i).toNat)
      case atStart => exact ⟨0, by omega, rfl, UU.out.congr (fun j _ => by simp), World.grownBy.refl _ _⟩
      case round =>
        obtain ⟨n, hn4, rfl, hu, hgt⟩ := hrel
        have sV := SV.out
        have hst := hgt.size
        have bk2 : ∀ b, b < wo.heap.size → wr.heap[b]? = wo.heap[b]? := fun b hb => (hgt.block b (by omega) (by simp; omega)).trans (BVH.out.block b hb)
        obtain ⟨c0, c1, c2, c3⟩ := DD.out
        have d0 := (World.cell?_of_block (a := ⟨w.heap.size, 0, none⟩) (bk2 w.heap.size wl)).trans c0
        have d1 := (World.cell?_of_block (a := ⟨w.heap.size, 1, none⟩) (bk2 w.heap.size wl)).trans c1
        have d2 := (World.cell?_of_block (a := ⟨w.heap.size, 2, none⟩) (bk2 w.heap.size wl)).trans c2
        have d3 := (World.cell?_of_block (a := ⟨w.heap.size, 3, none⟩) (bk2 w.heap.size wl)).trans c3
        have wtl : w.heap.size < wr.heap.size := by omega
        have utl : wo.heap.size < wr.heap.size := by omega
        have HU := Lib.hid hu; have HGT := Lib.hid hgt
        clear c0 c1 c2 c3
        by_cases hn : n < 4
        · have hni : (n : Int) < 4 := by omega
          have w4 : IntKind.i64.wrap (4 * (c : Int)) = 4 * (c : Int) := by rw [IntKind.wrap_i64]; omega
          have w5 : IntKind.i64.wrap (4 * (c : Int) + n) = 4 * (c : Int) + n := by rw [IntKind.wrap_i64]; omega
          have w6 : IntKind.i64.wrap (n : Int) = n := by rw [IntKind.wrap_i64]; omega
          clear hu hgt bk2
          go_wp2_with fail
          refine wp_region_loose 21 (GoPsi size) (by kernel_rfl) (by kernel_rfl) ?_
          simp only [List.take_succ_cons, List.take_zero, List.drop_succ_cons, List.drop_zero]
          iterate 9 (refine loose_wanted rfl (fun K hK => ?_); go_simp; refine hK _ ?_; clear hK K)
          refine loose_wanted rfl (fun K1 hK => ?_)
          go_simp
          refine ⟨fun p => (floorOver_any _ _ p.w hx'.out hs'.out).mono ?_, ?_⟩
          · rintro e w' ⟨rfl, rfl⟩
            exact ⟨_, rfl, .inl ⟨rfl, _, rfl, rfl⟩, p.h⟩
          intro u hu
          obtain rfl := go_fl hu
          refine hK _ ?_
          clear hK K1 hu
          iterate 3 (refine loose_wanted rfl (fun K hK => ?_); go_simp; refine hK _ ?_; clear hK K)
          refine loose_wanted rfl (fun K1 hK => ?_)
          go_simp
          refine ⟨fun p => (floorOver_any _ _ p.w hy'.out hs'.out).mono ?_, ?_⟩
          · rintro e w' ⟨rfl, rfl⟩
            exact ⟨_, rfl, .inl ⟨rfl, _, rfl, rfl⟩, p.h⟩
          intro u hu
          obtain rfl := go_fl hu
          refine hK _ ?_
          clear hK K1 hu
          iterate 4 (refine loose_wanted rfl (fun K hK => ?_); go_simp; refine hK _ ?_; clear hK K)
          refine loose_wanted rfl (fun K1 hK => ?_)
          go_simp
          refine ⟨fun p => (HashOf_any _ _ _ _ p.w).mono ?_, ?_⟩
          · rintro e w' ⟨rfl, hb⟩
            exact ⟨_, rfl, .inr (.inl ⟨rfl, _, _, _, _, rfl, rfl⟩), p.h.trans (hb.mono p.h.size)⟩
          intro u hu
          obtain rfl := go_ha hu
          refine hK _ ?_
          clear hK K1 hu
          refine loose_wanted rfl (fun K1 hK => ?_)
          go_simp
          refine ⟨fun p => (UnitOf_any _ p.w (hashZ_bd _ _ _ _).1 (hashZ_bd _ _ _ _).2).mono ?_, ?_⟩
          · rintro e w' ⟨m, rfl, rfl⟩
            exact ⟨_, rfl, .inr (.inr ⟨rfl, _, rfl, rfl⟩), below_drewN p.h m⟩
          intro u hu
          obtain rfl := go_un hu
          refine hK _ ?_
          clear hK K1 hu
          iterate 1 (refine loose_wanted rfl (fun K hK => ?_); go_simp; refine hK _ ?_; clear hK K)
          refine loose_nil (fun w5 hb5 => ?_)
          have hR5 := HU.out.of_block (hb5.block wo.heap.size utl)
          have hG5 : V.grownBy w5 (some wo.heap.size) := grown_past HGT.out hb5
          have x5 : w5.cell? ⟨wo.heap.size, n, none⟩ = some (.float .f32 0) := by have := hR5.cell hn; rw [this]; simp
          have y5 : w5.frozen? ⟨wo.heap.size, n, none⟩ = false := hR5.frozen _
          have HR5 := Lib.hid hR5; have HG5 := Lib.hid hG5
          clear hR5 hG5 hb5
          go_wp2_with fail
          go_roundw
          case rel =>
            refine ⟨n + 1, by omega, by go_num, (HR5.out.set n _).congr (fun j hj => ?_), grown_set HG5.out _ _⟩
            by_cases hjk : j = n
            · subst hjk
              simp [uni_t (sd := sd) (a := x / size) (b := y / size) hc hn]
            · simp only [hjk, if_false]
              by_cases h : j < n
              · rw [if_pos h, if_pos (by omega)]
              · rw [if_neg h, if_neg (by omega)]
          case measure => simp [intOf]; omega
        · have hne : n = 4 := by omega
          subst hne
          have u0 := hu.cell (show 0 < 4 by omega)
          have u1 := hu.cell (show 1 < 4 by omega)
          have u2 := hu.cell (show 2 < 4 by omega)
          have u3 := hu.cell (show 3 < 4 by omega)
          have pc := (P3.out.of_block (bk2 (w.heap.size + 1) (by omega))).cell (show c < 4 by omega)
          have QR := HQ.out.of_block (bk2 (w.heap.size + 1 + 1 + 1) (by omega))
          have GR : W.grownBy wr (some (w.heap.size + 1 + 1 + 1)) := grown_past HGR.out ((BVH.out.grown hgt (by omega) (by intro j hj; cases hj; omega)))
          have HQR := Lib.hid QR; have HG2 := Lib.hid GR
          simp at u0 u1 u2 u3
          have pl : w.heap.size + 1 < wr.heap.size := by omega
          have ql : w.heap.size + 1 + 1 + 1 < wr.heap.size := by omega
          clear hu hgt bk2 QR GR d0 d1
          obtain ⟨pv, hpv⟩ : ∃ pv, pv = p c := ⟨_, rfl⟩
          rw [← hpv] at pc
          have HPV := Lib.hid hpv; clear hpv
          go_wp2_with (first | ((with_reducible apply wpList_farith); rfl; rfl; rfl; intro _ _ _) | ((with_reducible apply wpList_up); rfl; exact Try.underlying38; exact Try.underlying51; intro _ _ _))
          rename_i a1 _ _ a2 _ _ a3 _ _ a4 _ _ a5 _ _
          have A := Lib.hid (And.intro a1 (And.intro a2 (And.intro a3 (And.intro a4 a5))))
          clear a1 a2 a3 a4 a5
          generalize hW4 : wr.drewN _ = W4
          have e2 : W4.cell? ⟨w.heap.size, 2, none⟩ = some (.float .f32 s) := by rw [← hW4]; exact d2
          have e3 : W4.cell? ⟨w.heap.size, 3, none⟩ = some (.float .f32 f) := by rw [← hW4]; exact d3
          have ep : W4.cell? ⟨w.heap.size + 1, c, none⟩ = some (.float .f32 pv) := by rw [← hW4]; exact pc
          have QR : W4.rowIs (w.heap.size + 1 + 1 + 1) 55 4 (grnK G c) := by rw [← hW4]; exact HQR.out
          have GR : W.grownBy W4 (some (w.heap.size + 1 + 1 + 1)) := grown_past HG2.out (by rw [← hW4]; exact below_drewN (Below.refl _ _) _)
          have eq : W4.heap.size = wr.heap.size := by rw [← hW4]; simp
          have l0 : w.heap.size < W4.heap.size := by omega
          have l1 : w.heap.size + 1 < W4.heap.size := by omega
          have l3 : w.heap.size + 1 + 1 + 1 < W4.heap.size := by omega
          have HQ4 := Lib.hid QR; have HG4 := Lib.hid GR
          have E := Lib.hid (And.intro e2 ep)
          clear hW4 d2 d3 pc HQR HG2 QR GR eq u0 u1 u2 u3 wtl utl pl ql hst
          have cz : (0 : Int) ≤ (c : Int) := by omega
          have c4i : (c : Int) < 4 := by omega
          refine wp_region_loose 8 (fun _ args u => LiPsi args u) (by kernel_rfl) (by kernel_rfl) ?_
          simp only [List.take_succ_cons, List.take_zero, List.drop_succ_cons, List.drop_zero]
          iterate 5 (refine loose_wanted rfl (fun K hK => ?_); go_simp; refine hK _ ?_; clear hK K)
          (first | ((with_reducible apply loose_farith); rfl; rfl; rfl; rfl; intro _ _) | ((with_reducible apply loose_up); rfl; rfl; exact Try.underlying38; exact Try.underlying51; intro _ _))
          (first | ((with_reducible apply loose_farith); rfl; rfl; rfl; rfl; intro _ _) | ((with_reducible apply loose_up); rfl; rfl; exact Try.underlying38; exact Try.underlying51; intro _ _))
          rename_i a6 _ a7
          refine loose_wanted rfl (fun K1 hK => ?_)
          go_simp
          refine ⟨fun p => (LimitOf_any _ _ _ p.w).mono ?_, ?_⟩
          · rintro e w' ⟨rfl, rfl⟩
            exact ⟨_, rfl, ⟨_, rfl, rfl⟩, p.h⟩
          intro u hu
          obtain rfl := li_own hu
          refine hK _ ?_
          clear hK K1 hu
          refine loose_nil (fun w5 hb5 => ?_)
          clear e2 e3 ep
          have hlw := hb5.size
          have e2 := (hb5.cell (p := ⟨w.heap.size, 2, none⟩) l0).trans (E.out.1)
          have ep := (hb5.cell (p := ⟨w.heap.size + 1, c, none⟩) l1).trans (E.out.2)
          have QR := HQ4.out.of_block (hb5.block _ l3)
          have GR : W.grownBy w5 (some (w.heap.size + 1 + 1 + 1)) := grown_past HG4.out hb5
          have m0 : w.heap.size < w5.heap.size := by omega
          have m1 : w.heap.size + 1 < w5.heap.size := by omega
          have m3 : w.heap.size + 1 + 1 + 1 < w5.heap.size := by omega
          clear HQ4 HG4 hb5 l0 l1 l3 hlw E
          have HQ4 := Lib.hid QR; have HG4 := Lib.hid GR
          clear QR GR
          go_wp2_with fail
          refine wp_region_loose 13 (fun _ args u => FxPsi args u) (by kernel_rfl) (by kernel_rfl) ?_
          simp only [List.take_succ_cons, List.take_zero, List.drop_succ_cons, List.drop_zero]
          iterate 7 (refine loose_wanted rfl (fun K hK => ?_); go_simp; refine hK _ ?_; clear hK K)
          (first | ((with_reducible apply loose_farith); rfl; rfl; rfl; rfl; intro _ _) | ((with_reducible apply loose_up); rfl; rfl; exact Try.underlying38; exact Try.underlying51; intro _ _))
          iterate 1 (refine loose_wanted rfl (fun K hK => ?_); go_simp; refine hK _ ?_; clear hK K)
          (first | ((with_reducible apply loose_farith); rfl; rfl; rfl; rfl; intro _ _) | ((with_reducible apply loose_up); rfl; rfl; exact Try.underlying38; exact Try.underlying51; intro _ _))
          (first | ((with_reducible apply loose_farith); rfl; rfl; rfl; rfl; intro _ _) | ((with_reducible apply loose_up); rfl; rfl; exact Try.underlying38; exact Try.underlying51; intro _ _))
          rename_i a8 _ a9 _ a10
          refine loose_wanted rfl (fun K1 hK => ?_)
          go_simp
          refine ⟨fun p => (Fix_any _ p.w).mono ?_, ?_⟩
          · rintro e w' ⟨rfl, rfl⟩
            exact ⟨_, rfl, ⟨_, rfl, rfl⟩, p.h⟩
          intro u hu
          obtain rfl := fx_own hu
          refine hK _ ?_
          clear hK K1 hu
          iterate 1 (refine loose_wanted rfl (fun K hK => ?_); go_simp; refine hK _ ?_; clear hK K)
          refine loose_nil (fun w6 hb6 => ?_)
          obtain ⟨a1, a2, a3, a4, a5⟩ := A.out
          have RV : cn .f32 _ = G c := (grn_FR2 a1 a2 a3 a4 a5 a6 a7 a8 a9 a10).trans (by rw [HG.out, grnP_lt hc, HPV.out])
          clear a1 a2 a3 a4 a5 a6 a7 a8 a9 a10 A e2 ep
          have QR := HQ4.out.of_block (hb6.block _ m3)
          have GR : W.grownBy w6 (some (w.heap.size + 1 + 1 + 1)) := grown_past HG4.out hb6
          have x6 : w6.cell? ⟨w.heap.size + 1 + 1 + 1, c, none⟩ = some (.float .f32 0) := by
            have := QR.cell (show c < 4 by omega)
            rw [this]; unfold grnK; rw [if_neg (by omega), if_neg (by omega)]
          have y6 : w6.frozen? ⟨w.heap.size + 1 + 1 + 1, c, none⟩ = false := QR.frozen _
          have HQ6 := Lib.hid QR; have HG6 := Lib.hid GR
          clear QR GR hb6 HQ4 HG4
          go_wp2_with fail
          go_roundw
          case rel =>
            refine ⟨c + 1, by omega, by go_num, (HQ6.out.set c _).congr (fun j hj => ?_), grown_set HG6.out _ _⟩
            unfold grnK
            by_cases hjk : j = c
            · subst hjk
              rw [if_pos rfl, if_pos (by omega)]
            · rw [if_neg hjk]
              by_cases h : j < c
              · rw [if_pos h, if_pos (by omega)]
              · rw [if_neg h, if_neg (show ¬ j < c + 1 by omega)]
          case measure => simp [intOf]; omega
    · have hce : c = 3 := by omega
      subst hce
      have q0 := hq.cell (show 0 < 4 by omega)
      have q1 := hq.cell (show 1 < 4 by omega)
      have q2 := hq.cell (show 2 < 4 by omega)
      have q3 := hq.cell (show 3 < 4 by omega)
      simp [grnK] at q0 q1 q2 q3
      have Z1 : Pix4 wr (w.heap.size + 1 + 1) 0 0 0 0 := by
        have h := ZZ.out
        have bb := bk (w.heap.size + 1 + 1) (by omega)
        exact ⟨(World.cell?_of_block bb).trans h.c0, (World.cell?_of_block bb).trans h.c1, (World.cell?_of_block bb).trans h.c2, (World.cell?_of_block bb).trans h.c3, fun o => (World.frozen?_of_block bb).trans (h.f o)⟩
      have B1 : Below w.heap.size w wr := BB.out.grown hgr (by omega) (by intro j hj; cases hj; omega)
      clear hq hgr bk P2 d0 d1 d2 d3 d4
      obtain ⟨z0, z1, z2, z3, zf⟩ := Z1
      go_wp2_with fail
      refine bodyPost_ret (v := .agg #[.float .f32 (G 0), .float .f32 (G 1), .float .f32 (G 2), .float .f32 (G 3)]) (by simp [results, Try.results85, go_sem, z0, z1, z2, z3]) rfl ⟨⟨G, rfl, HG.out⟩, ?_⟩
      exact (((B1.setCell (by first | (simp; done) | (simp; omega) | omega) _).setCell (by first | (simp; done) | (simp; omega) | omega) _).setCell (by first | (simp; done) | (simp; omega) | omega) _).setCell (by first | (simp; done) | (simp; omega) | omega) _
theorem GrainedOf_any (seed size : Int) (s f : Nat) (mono : Bool) (num x y : Int) (p : Nat → Nat) (w : World) (hs : 1 ≤ size ∧ size ≤ 16) (hx : -9223372036854775808 ≤ x ∧ x ≤ 9223372036854775807) (hy : -9223372036854775808 ≤ y ∧ y ≤ 9223372036854775807) :
    Calls Try.prog 85 #[.agg #[.int .u32 seed, .int .i64 size, .float .f32 s, .float .f32 f, .bool mono], .int .i64 num, .int .i64 x, .int .i64 y, .agg #[.float .f32 (p 0), .float .f32 (p 1), .float .f32 (p 2), .float .f32 (p 3)]] w fun e w' =>
      (∃ q : Nat → Nat, e = .returned (.agg #[.float .f32 (q 0), .float .f32 (q 1), .float .f32 (q 2), .float .f32 (q 3)]) ∧ q = grnP (bits .xor .u32 seed (num % 4294967296)) (x / size) (y / size) mono s f p) ∧ Below w.heap.size w w' := by
  cases mono
  · exact GrainedOf_false seed size s f num x y p w hs hx hy
  · exact GrainedOf_true seed size s f num x y p w hs hx hy
end Go.Proofs.Ytmnmcmmhnbnndaa

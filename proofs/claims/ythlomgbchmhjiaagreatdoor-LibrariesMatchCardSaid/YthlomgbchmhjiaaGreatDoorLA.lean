/- A cell of a value that came in, by its place: structs and arrays within each other. Plain laws of the form. No condition. (with: LbA, LbQ) -/
import Derived.Test.YthlomgbchmhjiaaGreatDoorOpG
import Derived.OpenShut
import Derived.Test.YthlomgbchmhjiaaGreatDoorCA
namespace Go.Proofs.YthlomgbchmhjiaaGreatDoor
open Go Go.RowKit Go.ChangeShapes Go.WideShapes Go.ChangeAt
/-- Cell o of a value of type t is one of type u. -/
inductive LeafAt (P : Program) : TypeId → Nat → TypeId → Prop
  | self {t : TypeId} (h : P.cellsOf t = 1) : LeafAt P t 0 t
  | field {t ts u : TypeId} {fs : Array Field} {off o k : Nat} (i : Nat) (ht : P.underlying t = some (.struct fs)) (hi : (fs[i]?).map (fun f : Field => (f.offset, f.type)) = some (off, ts)) (hk : P.cellsOf ts = k) (hl : o < k) (h : LeafAt P ts o u) : LeafAt P t (off + o) u
  | elem {t e u : TypeId} {n o k : Nat} (i : Nat) (ht : P.underlying t = some (.array n e)) (hi : i < n) (hk : P.cellsOf e = k) (hl : o < k) (h : LeafAt P e o u) : LeafAt P t (i * k + o) u
section
variable {H : Type} {enc : TypeId × Value → H} {P : Program} {w : World} {base : Nat} {spare : Nat → Bool} {held : Bool}
theorem LeafAt.trod {t u : TypeId} {o : Nat} (h : LeafAt P t o u) : ∀ (fuel : Nat) (cs : List Value) (x : DataW H × List MemPlace), DataW.trod enc P w base spare held fuel t cs = some x → cs.length ≤ P.cellsOf t → ∀ c, cs[o]? = some c → ∃ m y, DataW.trod enc P w base spare held m u [c] = some y := by
  induction h with
  | self h1 =>
    intro fuel cs x hx hlen c hc
    rw [h1] at hlen
    match cs, hlen, hc with
    | [d], _, hc =>
      simp only [List.getElem?_cons_zero, Option.some.injEq] at hc
      subst hc
      exact ⟨fuel, x, hx⟩
    | [], _, hc => simp at hc
    | _ :: _ :: _, hlen, _ => simp at hlen
  | field i ht hi hk hl _ ih =>
    subst hk
    intro fuel cs x hx _ c hc
    obtain ⟨m, y, hy⟩ := trod_field ht hi hx
    refine ih m _ y hy (by simp; omega) c ?_
    rw [List.getElem?_take, if_pos hl, List.getElem?_drop]
    exact hc
  | elem i ht hi hk hl _ ih =>
    subst hk
    intro fuel cs x hx _ c hc
    obtain ⟨xs, m, -, -, -, hxl, he⟩ := DataW.trod_array ht hx
    have h1 := he i hi
    obtain ⟨y, hy⟩ : ∃ y, xs[i]? = some y := ⟨_, List.getElem?_eq_getElem (by omega)⟩
    rw [hy] at h1
    refine ih m _ y h1 (by simp; omega) c ?_
    rw [List.getElem?_take, if_pos hl, List.getElem?_drop]
    exact hc
end
end Go.Proofs.YthlomgbchmhjiaaGreatDoor

namespace Go.Proofs.YthlomgbchmhjiaaGreatDoor
open Go Go.RowKit
/-- A row of structs of size sz that came in: where it lies, and each one's cells. -/
structure RowS (w : World) (a : Option Addr) (n c sz : Nat) (v : Nat → List Value) : Prop where
  lc : n ≤ c
  lm : c ≤ maxLen
  at_ : n = 0 ∨ ∃ b off, a = some ⟨b, off, none⟩ ∧ ∀ i, i < n → ∀ j x, (v i)[j]? = some x → w.cell? ⟨b, off + i * sz + j, none⟩ = some x
theorem RowS.past {w w' : World} {a : Option Addr} {n c sz : Nat} {v : Nat → List Value} (h : RowS w a n c sz v) (hb : Below w.heap.size w w') : RowS w' a n c sz v := by
  refine ⟨h.lc, h.lm, ?_⟩
  rcases h.at_ with h1 | ⟨b, off, h1, h2⟩
  · exact .inl h1
  · exact .inr ⟨b, off, h1, fun i hi j x hx => by
      have h3 := h2 i hi j x hx
      rw [hb.cell (p := ⟨b, off + i * sz + j, none⟩) (cell_lt h3)]; exact h3⟩
theorem RowS.get {w : World} {a : Option Addr} {n c sz : Nat} {v : Nat → List Value} (h : RowS w a n c sz v) {i : Nat} (hi : i < n) : ∃ b off, a = some ⟨b, off, none⟩ ∧ ∀ j x, (v i)[j]? = some x → w.cell? ⟨b, off + i * sz + j, none⟩ = some x := by
  rcases h.at_ with h1 | ⟨b, off, h1, h2⟩
  · omega
  · exact ⟨b, off, h1, h2 i hi⟩
/-- A curve: its kind, where its points lie. -/
structure CurveD where
  k : Int
  xa : Option Addr
  xc : Nat
  xs : List Nat
  ya : Option Addr
  yc : Nat
  ys : List Nat
def curveL (c : CurveD) : List Value := [.int .i64 c.k, .slice c.xa c.xs.length c.xc, .slice c.ya c.ys.length c.yc]
structure CurveAt (w : World) (c : CurveD) : Prop where
  x : RealsAt 0 w c.xa c.xs
  y : RealsAt 0 w c.ya c.ys
  xb : c.xs.length ≤ c.xc ∧ c.xc ≤ maxLen
  yb : c.ys.length ≤ c.yc ∧ c.yc ≤ maxLen
theorem CurveAt.past {w w' : World} {c : CurveD} (h : CurveAt w c) (hb : Below w.heap.size w w') : CurveAt w' c := ⟨h.x.past hb, h.y.past hb, h.xb, h.yb⟩
/-- A grade: its kind, its floats (wheels 0..8, list 9..18, mixer 19..30, pivot 31, amount 32), its curves, its points. -/
structure GradeD where
  k : Int
  f : Nat → Nat
  c : Nat → CurveD
  p : Nat → Int
def flV (g : GradeD) (i : Nat) : Value := .float .f32 (g.f i)
def gradeL (g : GradeD) : List Value :=
  .int .i64 g.k :: [flV g 0, flV g 1, flV g 2, flV g 3, flV g 4, flV g 5, flV g 6, flV g 7, flV g 8, flV g 9, flV g 10, flV g 11, flV g 12, flV g 13, flV g 14, flV g 15, flV g 16, flV g 17, flV g 18] ++
  (curveL (g.c 0) ++ curveL (g.c 1) ++ curveL (g.c 2) ++ curveL (g.c 3)) ++
  [flV g 19, flV g 20, flV g 21, flV g 22, flV g 23, flV g 24, flV g 25, flV g 26, flV g 27, flV g 28, flV g 29, flV g 30, flV g 31, flV g 32, .int .i64 (g.p 0), .int .i64 (g.p 1), .int .i64 (g.p 2)]
theorem gradeL_len (g : GradeD) : (gradeL g).length = 49 := rfl
def gradeV (g : GradeD) : Value := .agg (gradeL g).toArray
def GradeAt (w : World) (g : GradeD) : Prop := ∀ i, i < 4 → CurveAt w (g.c i)
/-- A library: rows of rows of grades, of cubes, of rows of key frames. -/
structure LibD where
  gn : Nat
  ga : Nat → Option Addr
  gl : Nat → Nat
  gc : Nat → Nat
  g : Nat → Nat → GradeD
  cn : Nat
  cs : Nat → Int
  cl : Nat → Nat
  ch : Nat → Nat
  ca : Nat → Option Addr
  cv : Nat → Nat
  cc : Nat → Nat
  wn : Nat
  wa : Nat → Option Addr
  wl : Nat → Nat
  wc : Nat → Nat
structure LibAt (w : World) (ag : Option Addr) (cg : Nat) (ac : Option Addr) (cc : Nat) (aw : Option Addr) (cw : Nat) (L : LibD) : Prop where
  g : RowS w ag L.gn cg 1 (fun i => [.slice (L.ga i) (L.gl i) (L.gc i)])
  gg : ∀ i, i < L.gn → RowS w (L.ga i) (L.gl i) (L.gc i) 49 (fun j => gradeL (L.g i j))
  c : RowS w ac L.cn cc 4 (fun i => [.int .i64 (L.cs i), .float .f32 (L.cl i), .float .f32 (L.ch i), .slice (L.ca i) (L.cv i) (L.cc i)])
  w : RowS w aw L.wn cw 1 (fun i => [.slice (L.wa i) (L.wl i) (L.wc i)])
theorem LibAt.past {w w' : World} {ag ac aw : Option Addr} {cg cc cw : Nat} {L : LibD} (h : LibAt w ag cg ac cc aw cw L) (hb : Below w.heap.size w w') : LibAt w' ag cg ac cc aw cw L :=
  ⟨h.g.past hb, fun i hi => (h.gg i hi).past hb, h.c.past hb, h.w.past hb⟩
/-- What is wrong with a library, where GE tells it of a grade, WE of a window. -/
def gsE (L : LibD) (GE : Nat → Nat → Int) (i : Nat) : Int := if 64 < L.gl i then 4 else fstN (GE i) (L.gl i)
def cuE (L : LibD) (i : Nat) : Int := cubErr (L.cs i) (L.cl i) (L.ch i) (L.cv i)
def lbE (L : LibD) (GE : Nat → Nat → Int) (WE : Nat → Int) : Int := if 16 < L.gn ∨ 16 < L.cn ∨ 16 < L.wn then 4 else fst2 (fstN (gsE L GE) L.gn) (fst2 (fstN (cuE L) L.cn) (fstN WE L.wn))
end Go.Proofs.YthlomgbchmhjiaaGreatDoor

set_option linter.unusedVariables false
namespace Go.Proofs.YthlomgbchmhjiaaGreatDoor
open Go Go.RowKit Go.ChangeShapes Go.WideShapes Go.ChangeAt
def allB (P : Nat → Prop) : Nat → Prop
  | 0 => True
  | n + 1 => allB P n ∧ P n
theorem allB_at {P : Nat → Prop} : ∀ {n : Nat}, allB P n → ∀ j, j < n → P j
  | 0, _, _, hj => absurd hj (Nat.not_lt_zero _)
  | n + 1, h, j, hj => if e : j = n then by rw [e]; exact h.2 else allB_at h.1 j (by omega)
/-- A key frame: when, how, its window. -/
structure KeyD where
  fr : Int
  ez : Int
  k : Int
  x : Nat
  y : Nat
  w : Nat
  h : Nat
  s : Nat
  pa : Option Addr
  pn : Nat
  pc : Nat
  px : Nat → Int
  py : Nat → Int
  out : Bool
def winL (d : KeyD) : List Value := [.int .i64 d.k, .float .f32 d.x, .float .f32 d.y, .float .f32 d.w, .float .f32 d.h, .float .f32 d.s, .slice d.pa d.pn d.pc, .bool d.out]
def frmL (d : KeyD) : List Value := .int .i64 d.fr :: .int .i64 d.ez :: winL d
def KeyAt (w : World) (d : KeyD) : Prop := RowS w d.pa d.pn d.pc 2 (fun j => [.int .i64 (d.px j), .int .i64 (d.py j)])
/-- A library, and all that lies in it. -/
structure LibFull (w : World) (ag : Option Addr) (cg : Nat) (ac : Option Addr) (cc : Nat) (aw : Option Addr) (cw : Nat) (L : LibD) (FD : Nat → Nat → KeyD) : Prop where
  a : LibAt w ag cg ac cc aw cw L
  gg : ∀ i, i < L.gn → ∀ j, j < L.gl i → GradeAt w (L.g i j)
  ww : ∀ i, i < L.wn → RowS w (L.wa i) (L.wl i) (L.wc i) 10 (fun j => frmL (FD i j))
  wp : ∀ i, i < L.wn → ∀ j, j < L.wl i → KeyAt w (FD i j)
section
variable {H : Type} {enc : TypeId × Value → H} {w : World} {base : Nat} {held : Bool} {fuel : Nat} {cs : List Value} {x : DataW H × List MemPlace}
theorem open_rowS {P : Program} {t e : TypeId} {D : Type} [Inhabited D] (v : D → List Value) (Pr : D → Prop) {a : Option Addr} {l n sz : Nat} (hts : P.underlying t = some (.slice e)) (hc : P.cellsOf e = sz) (hs : 0 < sz)
    (each : ∀ m cs y, DataW.trod enc P w base (fun _ => true) held m e cs = some y → cs.length = sz → ∃ d : D, (∀ (j : Nat) (u : Value), (v d)[j]? = some u → cs[j]? = some u) ∧ Pr d)
    (h : DataW.trod enc P w base (fun _ => true) held fuel t [.slice a l n] = some x) : ∃ f : Nat → D, RowS w a l n sz (fun i => v (f i)) ∧ ∀ i, i < l → Pr (f i) := by
  rcases Go.Deep.open_slice hts h with ⟨hcs, -⟩ | ⟨ad, len, cap, m, n', D', Pl, hcs, -, hl, hm, hmm, -, hel⟩
  · simp at hcs; obtain ⟨rfl, rfl, rfl⟩ := hcs
    exact ⟨fun _ => default, ⟨Nat.le_refl _, Nat.zero_le _, .inl rfl⟩, fun i hi => absurd hi (Nat.not_lt_zero _)⟩
  · simp at hcs; obtain ⟨rfl, rfl, rfl⟩ := hcs
    simp only [if_true] at hmm
    subst hmm
    obtain ⟨b, off, spot⟩ := ad
    have ev : ∀ i, i < m → ∃ d : D, (spot = none → ∀ (j : Nat) (u : Value), (v d)[j]? = some u → w.cell? ⟨b, off + i * sz + j, none⟩ = some u) ∧ Pr d ∧ (i = 0 → spot = none) := fun i hi => by
      obtain ⟨cs', h1, h2⟩ := hel i hi
      obtain ⟨-, hlen, hcell⟩ := World.cells?_some h1
      rw [hc] at hlen hcell
      obtain ⟨d, d1, d2⟩ := each _ _ _ h2 hlen
      refine ⟨d, fun hsp j u hj => ?_, d2, fun h0 => ?_⟩
      · have h3 := d1 j u hj
        have h4 := hcell j (by have := (List.getElem?_eq_some_iff.1 h3).1; omega)
        rw [h3] at h4
        subst hsp
        rw [← h4]
        simp [Go.WideShapes.add_plain, Nat.add_assoc]
      · have h4 := hcell 0 hs
        rw [List.getElem?_eq_getElem (by omega : 0 < cs'.length)] at h4
        subst h0
        simpa [Addr.add] using World.cell?_spot h4
    rcases Nat.eq_zero_or_pos l with h0 | h0
    · subst h0
      exact ⟨fun _ => default, ⟨Nat.zero_le _, hm, .inl rfl⟩, fun i hi => absurd hi (Nat.not_lt_zero _)⟩
    · have hsp := (ev 0 (by omega)).choose_spec.2.2 rfl
      refine ⟨fun i => if hi : i < m then (ev i hi).choose else default, ⟨hl, hm, .inr ⟨b, off, by rw [hsp], fun i hi j u hj => ?_⟩⟩, fun i hi => ?_⟩
      · simp only [show i < m by omega, dite_true] at hj
        exact (ev i (by omega)).choose_spec.1 hsp j u hj
      · simp only [show i < m by omega, dite_true]
        exact (ev i (by omega)).choose_spec.2.1

theorem cl_api_Wheels : Tryz.prog.cellsOf 52 = 9 := by kernel_rfl
theorem cl_api_CDL : Tryz.prog.cellsOf 54 = 10 := by kernel_rfl
theorem cl_api_Mixer : Tryz.prog.cellsOf 60 = 12 := by kernel_rfl
theorem cl__3_float32 : Tryz.prog.cellsOf 50 = 3 := by kernel_rfl
theorem cl__12_float32 : Tryz.prog.cellsOf 58 = 12 := by kernel_rfl
theorem cl__3_int : Tryz.prog.cellsOf 61 = 3 := by kernel_rfl
theorem cl__4_api_Curve : Tryz.prog.cellsOf 57 = 12 := by kernel_rfl
theorem cl_api_Curve : Tryz.prog.cellsOf 56 = 3 := by kernel_rfl
theorem cl_api_Grade : Tryz.prog.cellsOf 63 = 49 := by kernel_rfl
theorem cl_int : Tryz.prog.cellsOf 3 = 1 := by kernel_rfl
theorem cl_float32 : Tryz.prog.cellsOf 27 = 1 := by kernel_rfl
theorem cl___float32 : Tryz.prog.cellsOf 28 = 1 := by kernel_rfl
theorem cl_api_KeyFrame : Tryz.prog.cellsOf 96 = 10 := by kernel_rfl
theorem cl_api_Window : Tryz.prog.cellsOf 94 = 8 := by kernel_rfl
theorem cl___api_Point : Tryz.prog.cellsOf 92 = 1 := by kernel_rfl
theorem cl_bool : Tryz.prog.cellsOf 4 = 1 := by kernel_rfl
theorem cl_api_Point : Tryz.prog.cellsOf 115 = 2 := by kernel_rfl
theorem cl_api_Cube : Tryz.prog.cellsOf 30 = 4 := by kernel_rfl
theorem cl___api_Grade : Tryz.prog.cellsOf 49 = 1 := by kernel_rfl
theorem cl___api_KeyFrame : Tryz.prog.cellsOf 65 = 1 := by kernel_rfl
theorem lf_0 : LeafAt Tryz.prog 63 0 3 := (.field (off := 0) (ts := 3) 0 Tryz.underlying63 rfl cl_int (by decide) (.self cl_int))
theorem lf_1 : LeafAt Tryz.prog 63 1 27 := (.field (off := 1) (ts := 52) 1 Tryz.underlying63 rfl cl_api_Wheels (by decide) (.field (off := 0) (ts := 50) 0 Tryz.underlying52 rfl cl__3_float32 (by decide) (.elem (n := 3) 0 Tryz.underlying50 (by decide) cl_float32 (by decide) (.self cl_float32))))
theorem lf_2 : LeafAt Tryz.prog 63 2 27 := (.field (off := 1) (ts := 52) 1 Tryz.underlying63 rfl cl_api_Wheels (by decide) (.field (off := 0) (ts := 50) 0 Tryz.underlying52 rfl cl__3_float32 (by decide) (.elem (n := 3) 1 Tryz.underlying50 (by decide) cl_float32 (by decide) (.self cl_float32))))
theorem lf_3 : LeafAt Tryz.prog 63 3 27 := (.field (off := 1) (ts := 52) 1 Tryz.underlying63 rfl cl_api_Wheels (by decide) (.field (off := 0) (ts := 50) 0 Tryz.underlying52 rfl cl__3_float32 (by decide) (.elem (n := 3) 2 Tryz.underlying50 (by decide) cl_float32 (by decide) (.self cl_float32))))
theorem lf_4 : LeafAt Tryz.prog 63 4 27 := (.field (off := 1) (ts := 52) 1 Tryz.underlying63 rfl cl_api_Wheels (by decide) (.field (off := 3) (ts := 50) 1 Tryz.underlying52 rfl cl__3_float32 (by decide) (.elem (n := 3) 0 Tryz.underlying50 (by decide) cl_float32 (by decide) (.self cl_float32))))
theorem lf_5 : LeafAt Tryz.prog 63 5 27 := (.field (off := 1) (ts := 52) 1 Tryz.underlying63 rfl cl_api_Wheels (by decide) (.field (off := 3) (ts := 50) 1 Tryz.underlying52 rfl cl__3_float32 (by decide) (.elem (n := 3) 1 Tryz.underlying50 (by decide) cl_float32 (by decide) (.self cl_float32))))
theorem lf_6 : LeafAt Tryz.prog 63 6 27 := (.field (off := 1) (ts := 52) 1 Tryz.underlying63 rfl cl_api_Wheels (by decide) (.field (off := 3) (ts := 50) 1 Tryz.underlying52 rfl cl__3_float32 (by decide) (.elem (n := 3) 2 Tryz.underlying50 (by decide) cl_float32 (by decide) (.self cl_float32))))
theorem lf_7 : LeafAt Tryz.prog 63 7 27 := (.field (off := 1) (ts := 52) 1 Tryz.underlying63 rfl cl_api_Wheels (by decide) (.field (off := 6) (ts := 50) 2 Tryz.underlying52 rfl cl__3_float32 (by decide) (.elem (n := 3) 0 Tryz.underlying50 (by decide) cl_float32 (by decide) (.self cl_float32))))
theorem lf_8 : LeafAt Tryz.prog 63 8 27 := (.field (off := 1) (ts := 52) 1 Tryz.underlying63 rfl cl_api_Wheels (by decide) (.field (off := 6) (ts := 50) 2 Tryz.underlying52 rfl cl__3_float32 (by decide) (.elem (n := 3) 1 Tryz.underlying50 (by decide) cl_float32 (by decide) (.self cl_float32))))
theorem lf_9 : LeafAt Tryz.prog 63 9 27 := (.field (off := 1) (ts := 52) 1 Tryz.underlying63 rfl cl_api_Wheels (by decide) (.field (off := 6) (ts := 50) 2 Tryz.underlying52 rfl cl__3_float32 (by decide) (.elem (n := 3) 2 Tryz.underlying50 (by decide) cl_float32 (by decide) (.self cl_float32))))
theorem lf_10 : LeafAt Tryz.prog 63 10 27 := (.field (off := 10) (ts := 54) 2 Tryz.underlying63 rfl cl_api_CDL (by decide) (.field (off := 0) (ts := 50) 0 Tryz.underlying54 rfl cl__3_float32 (by decide) (.elem (n := 3) 0 Tryz.underlying50 (by decide) cl_float32 (by decide) (.self cl_float32))))
theorem lf_11 : LeafAt Tryz.prog 63 11 27 := (.field (off := 10) (ts := 54) 2 Tryz.underlying63 rfl cl_api_CDL (by decide) (.field (off := 0) (ts := 50) 0 Tryz.underlying54 rfl cl__3_float32 (by decide) (.elem (n := 3) 1 Tryz.underlying50 (by decide) cl_float32 (by decide) (.self cl_float32))))
theorem lf_12 : LeafAt Tryz.prog 63 12 27 := (.field (off := 10) (ts := 54) 2 Tryz.underlying63 rfl cl_api_CDL (by decide) (.field (off := 0) (ts := 50) 0 Tryz.underlying54 rfl cl__3_float32 (by decide) (.elem (n := 3) 2 Tryz.underlying50 (by decide) cl_float32 (by decide) (.self cl_float32))))
theorem lf_13 : LeafAt Tryz.prog 63 13 27 := (.field (off := 10) (ts := 54) 2 Tryz.underlying63 rfl cl_api_CDL (by decide) (.field (off := 3) (ts := 50) 1 Tryz.underlying54 rfl cl__3_float32 (by decide) (.elem (n := 3) 0 Tryz.underlying50 (by decide) cl_float32 (by decide) (.self cl_float32))))
theorem lf_14 : LeafAt Tryz.prog 63 14 27 := (.field (off := 10) (ts := 54) 2 Tryz.underlying63 rfl cl_api_CDL (by decide) (.field (off := 3) (ts := 50) 1 Tryz.underlying54 rfl cl__3_float32 (by decide) (.elem (n := 3) 1 Tryz.underlying50 (by decide) cl_float32 (by decide) (.self cl_float32))))
theorem lf_15 : LeafAt Tryz.prog 63 15 27 := (.field (off := 10) (ts := 54) 2 Tryz.underlying63 rfl cl_api_CDL (by decide) (.field (off := 3) (ts := 50) 1 Tryz.underlying54 rfl cl__3_float32 (by decide) (.elem (n := 3) 2 Tryz.underlying50 (by decide) cl_float32 (by decide) (.self cl_float32))))
theorem lf_16 : LeafAt Tryz.prog 63 16 27 := (.field (off := 10) (ts := 54) 2 Tryz.underlying63 rfl cl_api_CDL (by decide) (.field (off := 6) (ts := 50) 2 Tryz.underlying54 rfl cl__3_float32 (by decide) (.elem (n := 3) 0 Tryz.underlying50 (by decide) cl_float32 (by decide) (.self cl_float32))))
theorem lf_17 : LeafAt Tryz.prog 63 17 27 := (.field (off := 10) (ts := 54) 2 Tryz.underlying63 rfl cl_api_CDL (by decide) (.field (off := 6) (ts := 50) 2 Tryz.underlying54 rfl cl__3_float32 (by decide) (.elem (n := 3) 1 Tryz.underlying50 (by decide) cl_float32 (by decide) (.self cl_float32))))
theorem lf_18 : LeafAt Tryz.prog 63 18 27 := (.field (off := 10) (ts := 54) 2 Tryz.underlying63 rfl cl_api_CDL (by decide) (.field (off := 6) (ts := 50) 2 Tryz.underlying54 rfl cl__3_float32 (by decide) (.elem (n := 3) 2 Tryz.underlying50 (by decide) cl_float32 (by decide) (.self cl_float32))))
theorem lf_19 : LeafAt Tryz.prog 63 19 27 := (.field (off := 10) (ts := 54) 2 Tryz.underlying63 rfl cl_api_CDL (by decide) (.field (off := 9) (ts := 27) 3 Tryz.underlying54 rfl cl_float32 (by decide) (.self cl_float32)))
theorem lf_20 : LeafAt Tryz.prog 63 20 3 := (.field (off := 20) (ts := 57) 3 Tryz.underlying63 rfl cl__4_api_Curve (by decide) (.elem (n := 4) 0 Tryz.underlying57 (by decide) cl_api_Curve (by decide) (.field (off := 0) (ts := 3) 0 Tryz.underlying56 rfl cl_int (by decide) (.self cl_int))))
theorem lf_21 : LeafAt Tryz.prog 63 21 28 := (.field (off := 20) (ts := 57) 3 Tryz.underlying63 rfl cl__4_api_Curve (by decide) (.elem (n := 4) 0 Tryz.underlying57 (by decide) cl_api_Curve (by decide) (.field (off := 1) (ts := 28) 1 Tryz.underlying56 rfl cl___float32 (by decide) (.self cl___float32))))
theorem lf_22 : LeafAt Tryz.prog 63 22 28 := (.field (off := 20) (ts := 57) 3 Tryz.underlying63 rfl cl__4_api_Curve (by decide) (.elem (n := 4) 0 Tryz.underlying57 (by decide) cl_api_Curve (by decide) (.field (off := 2) (ts := 28) 2 Tryz.underlying56 rfl cl___float32 (by decide) (.self cl___float32))))
theorem lf_23 : LeafAt Tryz.prog 63 23 3 := (.field (off := 20) (ts := 57) 3 Tryz.underlying63 rfl cl__4_api_Curve (by decide) (.elem (n := 4) 1 Tryz.underlying57 (by decide) cl_api_Curve (by decide) (.field (off := 0) (ts := 3) 0 Tryz.underlying56 rfl cl_int (by decide) (.self cl_int))))
theorem lf_24 : LeafAt Tryz.prog 63 24 28 := (.field (off := 20) (ts := 57) 3 Tryz.underlying63 rfl cl__4_api_Curve (by decide) (.elem (n := 4) 1 Tryz.underlying57 (by decide) cl_api_Curve (by decide) (.field (off := 1) (ts := 28) 1 Tryz.underlying56 rfl cl___float32 (by decide) (.self cl___float32))))
theorem lf_25 : LeafAt Tryz.prog 63 25 28 := (.field (off := 20) (ts := 57) 3 Tryz.underlying63 rfl cl__4_api_Curve (by decide) (.elem (n := 4) 1 Tryz.underlying57 (by decide) cl_api_Curve (by decide) (.field (off := 2) (ts := 28) 2 Tryz.underlying56 rfl cl___float32 (by decide) (.self cl___float32))))
theorem lf_26 : LeafAt Tryz.prog 63 26 3 := (.field (off := 20) (ts := 57) 3 Tryz.underlying63 rfl cl__4_api_Curve (by decide) (.elem (n := 4) 2 Tryz.underlying57 (by decide) cl_api_Curve (by decide) (.field (off := 0) (ts := 3) 0 Tryz.underlying56 rfl cl_int (by decide) (.self cl_int))))
theorem lf_27 : LeafAt Tryz.prog 63 27 28 := (.field (off := 20) (ts := 57) 3 Tryz.underlying63 rfl cl__4_api_Curve (by decide) (.elem (n := 4) 2 Tryz.underlying57 (by decide) cl_api_Curve (by decide) (.field (off := 1) (ts := 28) 1 Tryz.underlying56 rfl cl___float32 (by decide) (.self cl___float32))))
theorem lf_28 : LeafAt Tryz.prog 63 28 28 := (.field (off := 20) (ts := 57) 3 Tryz.underlying63 rfl cl__4_api_Curve (by decide) (.elem (n := 4) 2 Tryz.underlying57 (by decide) cl_api_Curve (by decide) (.field (off := 2) (ts := 28) 2 Tryz.underlying56 rfl cl___float32 (by decide) (.self cl___float32))))
theorem lf_29 : LeafAt Tryz.prog 63 29 3 := (.field (off := 20) (ts := 57) 3 Tryz.underlying63 rfl cl__4_api_Curve (by decide) (.elem (n := 4) 3 Tryz.underlying57 (by decide) cl_api_Curve (by decide) (.field (off := 0) (ts := 3) 0 Tryz.underlying56 rfl cl_int (by decide) (.self cl_int))))
theorem lf_30 : LeafAt Tryz.prog 63 30 28 := (.field (off := 20) (ts := 57) 3 Tryz.underlying63 rfl cl__4_api_Curve (by decide) (.elem (n := 4) 3 Tryz.underlying57 (by decide) cl_api_Curve (by decide) (.field (off := 1) (ts := 28) 1 Tryz.underlying56 rfl cl___float32 (by decide) (.self cl___float32))))
theorem lf_31 : LeafAt Tryz.prog 63 31 28 := (.field (off := 20) (ts := 57) 3 Tryz.underlying63 rfl cl__4_api_Curve (by decide) (.elem (n := 4) 3 Tryz.underlying57 (by decide) cl_api_Curve (by decide) (.field (off := 2) (ts := 28) 2 Tryz.underlying56 rfl cl___float32 (by decide) (.self cl___float32))))
theorem lf_32 : LeafAt Tryz.prog 63 32 27 := (.field (off := 32) (ts := 60) 4 Tryz.underlying63 rfl cl_api_Mixer (by decide) (.field (off := 0) (ts := 58) 0 Tryz.underlying60 rfl cl__12_float32 (by decide) (.elem (n := 12) 0 Tryz.underlying58 (by decide) cl_float32 (by decide) (.self cl_float32))))
theorem lf_33 : LeafAt Tryz.prog 63 33 27 := (.field (off := 32) (ts := 60) 4 Tryz.underlying63 rfl cl_api_Mixer (by decide) (.field (off := 0) (ts := 58) 0 Tryz.underlying60 rfl cl__12_float32 (by decide) (.elem (n := 12) 1 Tryz.underlying58 (by decide) cl_float32 (by decide) (.self cl_float32))))
theorem lf_34 : LeafAt Tryz.prog 63 34 27 := (.field (off := 32) (ts := 60) 4 Tryz.underlying63 rfl cl_api_Mixer (by decide) (.field (off := 0) (ts := 58) 0 Tryz.underlying60 rfl cl__12_float32 (by decide) (.elem (n := 12) 2 Tryz.underlying58 (by decide) cl_float32 (by decide) (.self cl_float32))))
theorem lf_35 : LeafAt Tryz.prog 63 35 27 := (.field (off := 32) (ts := 60) 4 Tryz.underlying63 rfl cl_api_Mixer (by decide) (.field (off := 0) (ts := 58) 0 Tryz.underlying60 rfl cl__12_float32 (by decide) (.elem (n := 12) 3 Tryz.underlying58 (by decide) cl_float32 (by decide) (.self cl_float32))))
theorem lf_36 : LeafAt Tryz.prog 63 36 27 := (.field (off := 32) (ts := 60) 4 Tryz.underlying63 rfl cl_api_Mixer (by decide) (.field (off := 0) (ts := 58) 0 Tryz.underlying60 rfl cl__12_float32 (by decide) (.elem (n := 12) 4 Tryz.underlying58 (by decide) cl_float32 (by decide) (.self cl_float32))))
theorem lf_37 : LeafAt Tryz.prog 63 37 27 := (.field (off := 32) (ts := 60) 4 Tryz.underlying63 rfl cl_api_Mixer (by decide) (.field (off := 0) (ts := 58) 0 Tryz.underlying60 rfl cl__12_float32 (by decide) (.elem (n := 12) 5 Tryz.underlying58 (by decide) cl_float32 (by decide) (.self cl_float32))))
theorem lf_38 : LeafAt Tryz.prog 63 38 27 := (.field (off := 32) (ts := 60) 4 Tryz.underlying63 rfl cl_api_Mixer (by decide) (.field (off := 0) (ts := 58) 0 Tryz.underlying60 rfl cl__12_float32 (by decide) (.elem (n := 12) 6 Tryz.underlying58 (by decide) cl_float32 (by decide) (.self cl_float32))))
theorem lf_39 : LeafAt Tryz.prog 63 39 27 := (.field (off := 32) (ts := 60) 4 Tryz.underlying63 rfl cl_api_Mixer (by decide) (.field (off := 0) (ts := 58) 0 Tryz.underlying60 rfl cl__12_float32 (by decide) (.elem (n := 12) 7 Tryz.underlying58 (by decide) cl_float32 (by decide) (.self cl_float32))))
theorem lf_40 : LeafAt Tryz.prog 63 40 27 := (.field (off := 32) (ts := 60) 4 Tryz.underlying63 rfl cl_api_Mixer (by decide) (.field (off := 0) (ts := 58) 0 Tryz.underlying60 rfl cl__12_float32 (by decide) (.elem (n := 12) 8 Tryz.underlying58 (by decide) cl_float32 (by decide) (.self cl_float32))))
theorem lf_41 : LeafAt Tryz.prog 63 41 27 := (.field (off := 32) (ts := 60) 4 Tryz.underlying63 rfl cl_api_Mixer (by decide) (.field (off := 0) (ts := 58) 0 Tryz.underlying60 rfl cl__12_float32 (by decide) (.elem (n := 12) 9 Tryz.underlying58 (by decide) cl_float32 (by decide) (.self cl_float32))))
theorem lf_42 : LeafAt Tryz.prog 63 42 27 := (.field (off := 32) (ts := 60) 4 Tryz.underlying63 rfl cl_api_Mixer (by decide) (.field (off := 0) (ts := 58) 0 Tryz.underlying60 rfl cl__12_float32 (by decide) (.elem (n := 12) 10 Tryz.underlying58 (by decide) cl_float32 (by decide) (.self cl_float32))))
theorem lf_43 : LeafAt Tryz.prog 63 43 27 := (.field (off := 32) (ts := 60) 4 Tryz.underlying63 rfl cl_api_Mixer (by decide) (.field (off := 0) (ts := 58) 0 Tryz.underlying60 rfl cl__12_float32 (by decide) (.elem (n := 12) 11 Tryz.underlying58 (by decide) cl_float32 (by decide) (.self cl_float32))))
theorem lf_44 : LeafAt Tryz.prog 63 44 27 := (.field (off := 44) (ts := 27) 5 Tryz.underlying63 rfl cl_float32 (by decide) (.self cl_float32))
theorem lf_45 : LeafAt Tryz.prog 63 45 27 := (.field (off := 45) (ts := 27) 6 Tryz.underlying63 rfl cl_float32 (by decide) (.self cl_float32))
theorem lf_46 : LeafAt Tryz.prog 63 46 3 := (.field (off := 46) (ts := 61) 7 Tryz.underlying63 rfl cl__3_int (by decide) (.elem (n := 3) 0 Tryz.underlying61 (by decide) cl_int (by decide) (.self cl_int)))
theorem lf_47 : LeafAt Tryz.prog 63 47 3 := (.field (off := 46) (ts := 61) 7 Tryz.underlying63 rfl cl__3_int (by decide) (.elem (n := 3) 1 Tryz.underlying61 (by decide) cl_int (by decide) (.self cl_int)))
theorem lf_48 : LeafAt Tryz.prog 63 48 3 := (.field (off := 46) (ts := 61) 7 Tryz.underlying63 rfl cl__3_int (by decide) (.elem (n := 3) 2 Tryz.underlying61 (by decide) cl_int (by decide) (.self cl_int)))
theorem at_ {T u : TypeId} {n o : Nat} (lf : LeafAt Tryz.prog T o u) (hc : Tryz.prog.cellsOf T = n) (h : DataW.trod enc Tryz.prog w base (fun _ => true) held fuel T cs = some x) (hlen : cs.length = n) (ho : o < n) : ∃ c m y, cs[o]? = some c ∧ DataW.trod enc Tryz.prog w base (fun _ => true) held m u [c] = some y := by
  obtain ⟨m, y, hy⟩ := lf.trod fuel cs x h (by omega) _ (List.getElem?_eq_getElem (by omega : o < cs.length))
  exact ⟨_, m, y, List.getElem?_eq_getElem (by omega), hy⟩
theorem at_int {T : TypeId} {n o : Nat} (lf : LeafAt Tryz.prog T o 3) (hc : Tryz.prog.cellsOf T = n) (h : DataW.trod enc Tryz.prog w base (fun _ => true) held fuel T cs = some x) (hlen : cs.length = n) (ho : o < n) : ∃ v, cs[o]? = some (.int .i64 v) := by
  obtain ⟨c, m, y, h1, h2⟩ := at_ lf hc h hlen ho
  obtain ⟨v, h3, -⟩ := tr_i64 Tryz.underlying3 h2
  simp at h3; subst h3
  exact ⟨v, h1⟩
theorem at_float {T : TypeId} {n o : Nat} (lf : LeafAt Tryz.prog T o 27) (hc : Tryz.prog.cellsOf T = n) (h : DataW.trod enc Tryz.prog w base (fun _ => true) held fuel T cs = some x) (hlen : cs.length = n) (ho : o < n) : ∃ v, cs[o]? = some (.float .f32 v) := by
  obtain ⟨c, m, y, h1, h2⟩ := at_ lf hc h hlen ho
  obtain ⟨v, h3, -⟩ := trod_float Tryz.underlying27 h2
  simp at h3; subst h3
  exact ⟨v, h1⟩
theorem at_bool {T : TypeId} {n o : Nat} (lf : LeafAt Tryz.prog T o 4) (hc : Tryz.prog.cellsOf T = n) (h : DataW.trod enc Tryz.prog w base (fun _ => true) held fuel T cs = some x) (hlen : cs.length = n) (ho : o < n) : ∃ v, cs[o]? = some (.bool v) := by
  obtain ⟨c, m, y, h1, h2⟩ := at_ lf hc h hlen ho
  obtain ⟨v, h3, -⟩ := DataW.trod_bool Tryz.underlying4 h2
  simp at h3; subst h3
  exact ⟨v, h1⟩
theorem at_reals {T : TypeId} {n o : Nat} (lf : LeafAt Tryz.prog T o 28) (hc : Tryz.prog.cellsOf T = n) (h : DataW.trod enc Tryz.prog w base (fun _ => true) held fuel T cs = some x) (hlen : cs.length = n) (ho : o < n) : ∃ a c xs, cs[o]? = some (.slice a (List.length xs) c) ∧ RealsAt 0 w a xs ∧ List.length xs ≤ c ∧ c ≤ maxLen := by
  obtain ⟨c, m, y, h1, h2⟩ := at_ lf hc h hlen ho
  obtain ⟨a, l, cc, rfl⟩ := is_slice Tryz.underlying28 h2
  obtain ⟨zs, rfl, h4, h5, h6⟩ := tr_reals Tryz.underlying28 Tryz.underlying27 cl_float32 h2
  exact ⟨a, cc, zs, h1, h6, h4, h5⟩
set_option maxRecDepth 100000 in
set_option maxHeartbeats 3200000 in
theorem open_grade (h : DataW.trod enc Tryz.prog w base (fun _ => true) held fuel 63 cs = some x) (hlen : cs.length = 49) : ∃ g : GradeD, (∀ (j : Nat) (v : Value), (gradeL g)[j]? = some v → cs[j]? = some v) ∧ GradeAt w g := by
  obtain ⟨i0, e0⟩ := at_int lf_0 cl_api_Grade h hlen (by decide)
  obtain ⟨f1, e1⟩ := at_float lf_1 cl_api_Grade h hlen (by decide)
  obtain ⟨f2, e2⟩ := at_float lf_2 cl_api_Grade h hlen (by decide)
  obtain ⟨f3, e3⟩ := at_float lf_3 cl_api_Grade h hlen (by decide)
  obtain ⟨f4, e4⟩ := at_float lf_4 cl_api_Grade h hlen (by decide)
  obtain ⟨f5, e5⟩ := at_float lf_5 cl_api_Grade h hlen (by decide)
  obtain ⟨f6, e6⟩ := at_float lf_6 cl_api_Grade h hlen (by decide)
  obtain ⟨f7, e7⟩ := at_float lf_7 cl_api_Grade h hlen (by decide)
  obtain ⟨f8, e8⟩ := at_float lf_8 cl_api_Grade h hlen (by decide)
  obtain ⟨f9, e9⟩ := at_float lf_9 cl_api_Grade h hlen (by decide)
  obtain ⟨f10, e10⟩ := at_float lf_10 cl_api_Grade h hlen (by decide)
  obtain ⟨f11, e11⟩ := at_float lf_11 cl_api_Grade h hlen (by decide)
  obtain ⟨f12, e12⟩ := at_float lf_12 cl_api_Grade h hlen (by decide)
  obtain ⟨f13, e13⟩ := at_float lf_13 cl_api_Grade h hlen (by decide)
  obtain ⟨f14, e14⟩ := at_float lf_14 cl_api_Grade h hlen (by decide)
  obtain ⟨f15, e15⟩ := at_float lf_15 cl_api_Grade h hlen (by decide)
  obtain ⟨f16, e16⟩ := at_float lf_16 cl_api_Grade h hlen (by decide)
  obtain ⟨f17, e17⟩ := at_float lf_17 cl_api_Grade h hlen (by decide)
  obtain ⟨f18, e18⟩ := at_float lf_18 cl_api_Grade h hlen (by decide)
  obtain ⟨f19, e19⟩ := at_float lf_19 cl_api_Grade h hlen (by decide)
  obtain ⟨i20, e20⟩ := at_int lf_20 cl_api_Grade h hlen (by decide)
  obtain ⟨a21, c21, x21, e21, r21, b21⟩ := at_reals lf_21 cl_api_Grade h hlen (by decide)
  obtain ⟨a22, c22, x22, e22, r22, b22⟩ := at_reals lf_22 cl_api_Grade h hlen (by decide)
  obtain ⟨i23, e23⟩ := at_int lf_23 cl_api_Grade h hlen (by decide)
  obtain ⟨a24, c24, x24, e24, r24, b24⟩ := at_reals lf_24 cl_api_Grade h hlen (by decide)
  obtain ⟨a25, c25, x25, e25, r25, b25⟩ := at_reals lf_25 cl_api_Grade h hlen (by decide)
  obtain ⟨i26, e26⟩ := at_int lf_26 cl_api_Grade h hlen (by decide)
  obtain ⟨a27, c27, x27, e27, r27, b27⟩ := at_reals lf_27 cl_api_Grade h hlen (by decide)
  obtain ⟨a28, c28, x28, e28, r28, b28⟩ := at_reals lf_28 cl_api_Grade h hlen (by decide)
  obtain ⟨i29, e29⟩ := at_int lf_29 cl_api_Grade h hlen (by decide)
  obtain ⟨a30, c30, x30, e30, r30, b30⟩ := at_reals lf_30 cl_api_Grade h hlen (by decide)
  obtain ⟨a31, c31, x31, e31, r31, b31⟩ := at_reals lf_31 cl_api_Grade h hlen (by decide)
  obtain ⟨f32, e32⟩ := at_float lf_32 cl_api_Grade h hlen (by decide)
  obtain ⟨f33, e33⟩ := at_float lf_33 cl_api_Grade h hlen (by decide)
  obtain ⟨f34, e34⟩ := at_float lf_34 cl_api_Grade h hlen (by decide)
  obtain ⟨f35, e35⟩ := at_float lf_35 cl_api_Grade h hlen (by decide)
  obtain ⟨f36, e36⟩ := at_float lf_36 cl_api_Grade h hlen (by decide)
  obtain ⟨f37, e37⟩ := at_float lf_37 cl_api_Grade h hlen (by decide)
  obtain ⟨f38, e38⟩ := at_float lf_38 cl_api_Grade h hlen (by decide)
  obtain ⟨f39, e39⟩ := at_float lf_39 cl_api_Grade h hlen (by decide)
  obtain ⟨f40, e40⟩ := at_float lf_40 cl_api_Grade h hlen (by decide)
  obtain ⟨f41, e41⟩ := at_float lf_41 cl_api_Grade h hlen (by decide)
  obtain ⟨f42, e42⟩ := at_float lf_42 cl_api_Grade h hlen (by decide)
  obtain ⟨f43, e43⟩ := at_float lf_43 cl_api_Grade h hlen (by decide)
  obtain ⟨f44, e44⟩ := at_float lf_44 cl_api_Grade h hlen (by decide)
  obtain ⟨f45, e45⟩ := at_float lf_45 cl_api_Grade h hlen (by decide)
  obtain ⟨i46, e46⟩ := at_int lf_46 cl_api_Grade h hlen (by decide)
  obtain ⟨i47, e47⟩ := at_int lf_47 cl_api_Grade h hlen (by decide)
  obtain ⟨i48, e48⟩ := at_int lf_48 cl_api_Grade h hlen (by decide)
  refine ⟨⟨i0, fun i => [f1, f2, f3, f4, f5, f6, f7, f8, f9, f10, f11, f12, f13, f14, f15, f16, f17, f18, f19, f32, f33, f34, f35, f36, f37, f38, f39, f40, f41, f42, f43, f44, f45].getD i 0, fun i => ([⟨i20, a21, c21, x21, a22, c22, x22⟩, ⟨i23, a24, c24, x24, a25, c25, x25⟩, ⟨i26, a27, c27, x27, a28, c28, x28⟩, ⟨i29, a30, c30, x30, a31, c31, x31⟩] : List CurveD).getD i ⟨0, none, 0, [], none, 0, []⟩, fun i => [i46, i47, i48].getD i 0⟩, fun j v hj => ?_, fun i hi => ?_⟩
  · have hjl : j < 49 := (List.getElem?_eq_some_iff.1 hj).1
    generalize hG : gradeL _ = G at hj
    have hall : allB (fun j => cs[j]? = G[j]?) 49 := by
      subst hG
      exact ⟨⟨⟨⟨⟨⟨⟨⟨⟨⟨⟨⟨⟨⟨⟨⟨⟨⟨⟨⟨⟨⟨⟨⟨⟨⟨⟨⟨⟨⟨⟨⟨⟨⟨⟨⟨⟨⟨⟨⟨⟨⟨⟨⟨⟨⟨⟨⟨⟨trivial, e0⟩, e1⟩, e2⟩, e3⟩, e4⟩, e5⟩, e6⟩, e7⟩, e8⟩, e9⟩, e10⟩, e11⟩, e12⟩, e13⟩, e14⟩, e15⟩, e16⟩, e17⟩, e18⟩, e19⟩, e20⟩, e21⟩, e22⟩, e23⟩, e24⟩, e25⟩, e26⟩, e27⟩, e28⟩, e29⟩, e30⟩, e31⟩, e32⟩, e33⟩, e34⟩, e35⟩, e36⟩, e37⟩, e38⟩, e39⟩, e40⟩, e41⟩, e42⟩, e43⟩, e44⟩, e45⟩, e46⟩, e47⟩, e48⟩
    rw [allB_at hall j hjl]; exact hj
  · match i, hi with
    | 0, _ => exact ⟨r21, r22, b21, b22⟩
    | 1, _ => exact ⟨r24, r25, b24, b25⟩
    | 2, _ => exact ⟨r27, r28, b27, b28⟩
    | 3, _ => exact ⟨r30, r31, b30, b31⟩
theorem lk_0 : LeafAt Tryz.prog 96 0 3 := (.field (off := 0) (ts := 3) 0 Tryz.underlying96 rfl cl_int (by decide) (.self cl_int))
theorem lk_1 : LeafAt Tryz.prog 96 1 3 := (.field (off := 1) (ts := 3) 1 Tryz.underlying96 rfl cl_int (by decide) (.self cl_int))
theorem lk_2 : LeafAt Tryz.prog 96 2 3 := (.field (off := 2) (ts := 94) 2 Tryz.underlying96 rfl cl_api_Window (by decide) (.field (off := 0) (ts := 3) 0 Tryz.underlying94 rfl cl_int (by decide) (.self cl_int)))
theorem lk_3 : LeafAt Tryz.prog 96 3 27 := (.field (off := 2) (ts := 94) 2 Tryz.underlying96 rfl cl_api_Window (by decide) (.field (off := 1) (ts := 27) 1 Tryz.underlying94 rfl cl_float32 (by decide) (.self cl_float32)))
theorem lk_4 : LeafAt Tryz.prog 96 4 27 := (.field (off := 2) (ts := 94) 2 Tryz.underlying96 rfl cl_api_Window (by decide) (.field (off := 2) (ts := 27) 2 Tryz.underlying94 rfl cl_float32 (by decide) (.self cl_float32)))
theorem lk_5 : LeafAt Tryz.prog 96 5 27 := (.field (off := 2) (ts := 94) 2 Tryz.underlying96 rfl cl_api_Window (by decide) (.field (off := 3) (ts := 27) 3 Tryz.underlying94 rfl cl_float32 (by decide) (.self cl_float32)))
theorem lk_6 : LeafAt Tryz.prog 96 6 27 := (.field (off := 2) (ts := 94) 2 Tryz.underlying96 rfl cl_api_Window (by decide) (.field (off := 4) (ts := 27) 4 Tryz.underlying94 rfl cl_float32 (by decide) (.self cl_float32)))
theorem lk_7 : LeafAt Tryz.prog 96 7 27 := (.field (off := 2) (ts := 94) 2 Tryz.underlying96 rfl cl_api_Window (by decide) (.field (off := 5) (ts := 27) 5 Tryz.underlying94 rfl cl_float32 (by decide) (.self cl_float32)))
theorem lk_8 : LeafAt Tryz.prog 96 8 92 := (.field (off := 2) (ts := 94) 2 Tryz.underlying96 rfl cl_api_Window (by decide) (.field (off := 6) (ts := 92) 6 Tryz.underlying94 rfl cl___api_Point (by decide) (.self cl___api_Point)))
theorem lk_9 : LeafAt Tryz.prog 96 9 4 := (.field (off := 2) (ts := 94) 2 Tryz.underlying96 rfl cl_api_Window (by decide) (.field (off := 7) (ts := 4) 7 Tryz.underlying94 rfl cl_bool (by decide) (.self cl_bool)))
theorem lp_0 : LeafAt Tryz.prog 115 0 3 := (.field (off := 0) (ts := 3) 0 Tryz.underlying115 rfl cl_int (by decide) (.self cl_int))
theorem lp_1 : LeafAt Tryz.prog 115 1 3 := (.field (off := 1) (ts := 3) 1 Tryz.underlying115 rfl cl_int (by decide) (.self cl_int))
theorem open_point (h : DataW.trod enc Tryz.prog w base (fun _ => true) held fuel 115 cs = some x) (hlen : cs.length = 2) : ∃ d : Int × Int, (∀ (j : Nat) (v : Value), [Value.int .i64 d.1, .int .i64 d.2][j]? = some v → cs[j]? = some v) ∧ True := by
  obtain ⟨i0, e0⟩ := at_int lp_0 cl_api_Point h hlen (by decide)
  obtain ⟨i1, e1⟩ := at_int lp_1 cl_api_Point h hlen (by decide)
  refine ⟨(i0, i1), fun j v hj => ?_, trivial⟩
  have hjl : j < 2 := (List.getElem?_eq_some_iff.1 hj).1
  have hall : allB (fun j => cs[j]? = [Value.int .i64 i0, .int .i64 i1][j]?) 2 := ⟨⟨trivial, e0⟩, e1⟩
  rw [allB_at hall j hjl]; exact hj
theorem open_frame (h : DataW.trod enc Tryz.prog w base (fun _ => true) held fuel 96 cs = some x) (hlen : cs.length = 10) : ∃ d : KeyD, (∀ (j : Nat) (v : Value), (frmL d)[j]? = some v → cs[j]? = some v) ∧ KeyAt w d := by
  obtain ⟨i0, e0⟩ := at_int lk_0 cl_api_KeyFrame h hlen (by decide)
  obtain ⟨i1, e1⟩ := at_int lk_1 cl_api_KeyFrame h hlen (by decide)
  obtain ⟨i2, e2⟩ := at_int lk_2 cl_api_KeyFrame h hlen (by decide)
  obtain ⟨f3, e3⟩ := at_float lk_3 cl_api_KeyFrame h hlen (by decide)
  obtain ⟨f4, e4⟩ := at_float lk_4 cl_api_KeyFrame h hlen (by decide)
  obtain ⟨f5, e5⟩ := at_float lk_5 cl_api_KeyFrame h hlen (by decide)
  obtain ⟨f6, e6⟩ := at_float lk_6 cl_api_KeyFrame h hlen (by decide)
  obtain ⟨f7, e7⟩ := at_float lk_7 cl_api_KeyFrame h hlen (by decide)
  obtain ⟨c8, m8, y8, e8, t8⟩ := at_ lk_8 cl_api_KeyFrame h hlen (by decide)
  obtain ⟨pa, pn, pc, rfl⟩ := is_slice Tryz.underlying92 t8
  obtain ⟨pf, hp, -⟩ := open_rowS (D := Int × Int) (fun d => [Value.int .i64 d.1, .int .i64 d.2]) (fun _ => True) Tryz.underlying92 cl_api_Point (by decide) (fun m cs y h1 h2 => open_point h1 h2) t8
  obtain ⟨b9, e9⟩ := at_bool lk_9 cl_api_KeyFrame h hlen (by decide)
  refine ⟨⟨i0, i1, i2, f3, f4, f5, f6, f7, pa, pn, pc, fun j => (pf j).1, fun j => (pf j).2, b9⟩, fun j v hj => ?_, hp⟩
  have hjl : j < 10 := (List.getElem?_eq_some_iff.1 hj).1
  generalize hG : frmL _ = G at hj
  have hall : allB (fun j => cs[j]? = G[j]?) 10 := by
    subst hG
    exact ⟨⟨⟨⟨⟨⟨⟨⟨⟨⟨trivial, e0⟩, e1⟩, e2⟩, e3⟩, e4⟩, e5⟩, e6⟩, e7⟩, e8⟩, e9⟩
  rw [allB_at hall j hjl]; exact hj
theorem lc_0 : LeafAt Tryz.prog 30 0 3 := (.field (off := 0) (ts := 3) 0 Tryz.underlying30 rfl cl_int (by decide) (.self cl_int))
theorem lc_1 : LeafAt Tryz.prog 30 1 27 := (.field (off := 1) (ts := 27) 1 Tryz.underlying30 rfl cl_float32 (by decide) (.self cl_float32))
theorem lc_2 : LeafAt Tryz.prog 30 2 27 := (.field (off := 2) (ts := 27) 2 Tryz.underlying30 rfl cl_float32 (by decide) (.self cl_float32))
theorem lc_3 : LeafAt Tryz.prog 30 3 28 := (.field (off := 3) (ts := 28) 3 Tryz.underlying30 rfl cl___float32 (by decide) (.self cl___float32))
structure CubeD where
  s : Int
  l : Nat
  h : Nat
  a : Option Addr
  v : Nat
  c : Nat
def cubL (d : CubeD) : List Value := [.int .i64 d.s, .float .f32 d.l, .float .f32 d.h, .slice d.a d.v d.c]
theorem open_cubeD (h : DataW.trod enc Tryz.prog w base (fun _ => true) held fuel 30 cs = some x) (hlen : cs.length = 4) : ∃ d : CubeD, (∀ (j : Nat) (v : Value), (cubL d)[j]? = some v → cs[j]? = some v) ∧ True := by
  obtain ⟨i0, e0⟩ := at_int lc_0 cl_api_Cube h hlen (by decide)
  obtain ⟨f1, e1⟩ := at_float lc_1 cl_api_Cube h hlen (by decide)
  obtain ⟨f2, e2⟩ := at_float lc_2 cl_api_Cube h hlen (by decide)
  obtain ⟨a3, c3, x3, e3, -, -⟩ := at_reals lc_3 cl_api_Cube h hlen (by decide)
  refine ⟨⟨i0, f1, f2, a3, x3.length, c3⟩, fun j v hj => ?_, trivial⟩
  have hjl : j < 4 := (List.getElem?_eq_some_iff.1 hj).1
  generalize hG : cubL _ = G at hj
  have hall : allB (fun j => cs[j]? = G[j]?) 4 := by
    subst hG
    exact ⟨⟨⟨⟨trivial, e0⟩, e1⟩, e2⟩, e3⟩
  rw [allB_at hall j hjl]; exact hj
instance : Inhabited GradeD := ⟨⟨0, fun _ => 0, fun _ => ⟨0, none, 0, [], none, 0, []⟩, fun _ => 0⟩⟩
instance : Inhabited KeyD := ⟨⟨0, 0, 0, 0, 0, 0, 0, 0, none, 0, 0, fun _ => 0, fun _ => 0, false⟩⟩
instance : Inhabited CubeD := ⟨⟨0, 0, 0, none, 0, 0⟩⟩
structure GsD where
  a : Option Addr
  l : Nat
  c : Nat
  g : Nat → GradeD
instance : Inhabited GsD := ⟨⟨none, 0, 0, fun _ => default⟩⟩
structure WsD where
  a : Option Addr
  l : Nat
  c : Nat
  f : Nat → KeyD
instance : Inhabited WsD := ⟨⟨none, 0, 0, fun _ => default⟩⟩
theorem one_ {c : Value} {cs : List Value} (v : Value) (hc : cs = [c]) (h : c = v) : ∀ (j : Nat) (u : Value), [v][j]? = some u → cs[j]? = some u := fun j u hj => by rw [hc, h]; exact hj
theorem li1 {l : List Value} (h : l.length = 1) : ∃ a, l = [a] := by
  match l, h with
  | [a], _ => exact ⟨a, rfl⟩
theorem open_gs (h : DataW.trod enc Tryz.prog w base (fun _ => true) held fuel 49 cs = some x) (hlen : cs.length = 1) : ∃ d : GsD, (∀ (j : Nat) (v : Value), [Value.slice d.a d.l d.c][j]? = some v → cs[j]? = some v) ∧ (RowS w d.a d.l d.c 49 (fun j => gradeL (d.g j)) ∧ ∀ j, j < d.l → GradeAt w (d.g j)) := by
  obtain ⟨c, rfl⟩ := li1 hlen
  obtain ⟨a, l, n, rfl⟩ := is_slice Tryz.underlying49 h
  obtain ⟨f, h1, h2⟩ := open_rowS (D := GradeD) gradeL (GradeAt w) Tryz.underlying49 cl_api_Grade (by decide) (fun m cs y h1 h2 => open_grade h1 h2) h
  exact ⟨⟨a, l, n, f⟩, fun j v hj => hj, h1, h2⟩
theorem open_ws (h : DataW.trod enc Tryz.prog w base (fun _ => true) held fuel 65 cs = some x) (hlen : cs.length = 1) : ∃ d : WsD, (∀ (j : Nat) (v : Value), [Value.slice d.a d.l d.c][j]? = some v → cs[j]? = some v) ∧ (RowS w d.a d.l d.c 10 (fun j => frmL (d.f j)) ∧ ∀ j, j < d.l → KeyAt w (d.f j)) := by
  obtain ⟨c, rfl⟩ := li1 hlen
  obtain ⟨a, l, n, rfl⟩ := is_slice Tryz.underlying65 h
  obtain ⟨f, h1, h2⟩ := open_rowS (D := KeyD) frmL (KeyAt w) Tryz.underlying65 cl_api_KeyFrame (by decide) (fun m cs y h1 h2 => open_frame h1 h2) h
  exact ⟨⟨a, l, n, f⟩, fun j v hj => hj, h1, h2⟩
theorem open_lib {ag ac aw : Option Addr} {gn cg cn cc wn cw : Nat} {m0 m1 m2 : Nat} {y0 y1 y2 : DataW H × List MemPlace} (h0 : DataW.trod enc Tryz.prog w base (fun _ => true) held m0 22 [.slice ag gn cg] = some y0) (h1 : DataW.trod enc Tryz.prog w base (fun _ => true) held m1 23 [.slice ac cn cc] = some y1) (h2 : DataW.trod enc Tryz.prog w base (fun _ => true) held m2 24 [.slice aw wn cw] = some y2) :
    ∃ L FD, L.gn = gn ∧ L.cn = cn ∧ L.wn = wn ∧ LibFull w ag cg ac cc aw cw L FD := by
  obtain ⟨g, g1, g2⟩ := open_rowS (D := GsD) (fun d => [Value.slice d.a d.l d.c]) (fun d => RowS w d.a d.l d.c 49 (fun j => gradeL (d.g j)) ∧ ∀ j, j < d.l → GradeAt w (d.g j)) Tryz.underlying22 cl___api_Grade (by decide) (fun m cs y h1 h2 => open_gs h1 h2) h0
  obtain ⟨c, c1, -⟩ := open_rowS (D := CubeD) cubL (fun _ => True) Tryz.underlying23 cl_api_Cube (by decide) (fun m cs y h1 h2 => open_cubeD h1 h2) h1
  obtain ⟨f, f1, f2⟩ := open_rowS (D := WsD) (fun d => [Value.slice d.a d.l d.c]) (fun d => RowS w d.a d.l d.c 10 (fun j => frmL (d.f j)) ∧ ∀ j, j < d.l → KeyAt w (d.f j)) Tryz.underlying24 cl___api_KeyFrame (by decide) (fun m cs y h1 h2 => open_ws h1 h2) h2
  exact ⟨⟨gn, fun i => (g i).a, fun i => (g i).l, fun i => (g i).c, fun i j => (g i).g j, cn, fun i => (c i).s, fun i => (c i).l, fun i => (c i).h, fun i => (c i).a, fun i => (c i).v, fun i => (c i).c, wn, fun i => (f i).a, fun i => (f i).l, fun i => (f i).c⟩, fun i j => (f i).f j, rfl, rfl, rfl, ⟨⟨g1, fun i hi => (g2 i hi).1, c1, f1⟩, fun i hi => (g2 i hi).2, fun i hi => (f2 i hi).1, fun i hi => (f2 i hi).2⟩⟩
end
end Go.Proofs.YthlomgbchmhjiaaGreatDoor

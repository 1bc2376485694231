/- Parts of a frame, put together: what was got. Conditions: what each theorem names. -/
import Derived.Test.YtnicamndlkdcmaaJnG
namespace Go.Proofs.Ytnicamndlkdcmaa
open Go Go.RowKit
def GotF (E X Y W H : Int) (F : Nat → Nat) (w : World) (gx gy gv gh : Int) (ga : Option Addr) (gm gc : Nat) : Prop :=
  (E ≠ 0 → gx = 0 ∧ gy = 0 ∧ gv = 0 ∧ gh = 0 ∧ ga = none ∧ gm = 0 ∧ gc = 0) ∧
  (E = 0 → gx = X ∧ gy = Y ∧ gv = W ∧ gh = H ∧ gm = 4 * (W.toNat * H.toNat) ∧ gc = gm ∧ gm ≤ 65536 ∧ ∃ g, ga = some ⟨g, 0, none⟩ ∧ g < w.heap.size ∧ ∀ i, i < gm → w.cell? ⟨g, 0 + i, none⟩ = some (.float .f32 (F i)))
theorem GotF.past {E X Y W H : Int} {F : Nat → Nat} {w w' : World} {gx gy gv gh : Int} {ga : Option Addr} {gm gc : Nat} (k : GotF E X Y W H F w gx gy gv gh ga gm gc) (hb : Below w.heap.size w w') : GotF E X Y W H F w' gx gy gv gh ga gm gc := by
  refine ⟨k.1, fun h => ?_⟩
  obtain ⟨a, b, c, d, e, e2, f, g, h1, h2, h3⟩ := k.2 h
  refine ⟨a, b, c, d, e, e2, f, g, h1, by have := hb.size; omega, fun i hi => ?_⟩
  exact (hb.cell (p := ⟨g, 0 + i, none⟩) h2).trans (h3 i hi)
theorem GotF.far {E X Y W H : Int} {F : Nat → Nat} {w : World} {gx gy gv gh : Int} {ga : Option Addr} {gm gc nz : Nat} (k : GotF E X Y W H F w gx gy gv gh ga gm gc) (hne : E = 0 → ∀ g, ga = some ⟨g, 0, none⟩ → nz ≠ g) (i : Nat) (t : Value) : GotF E X Y W H F (w.setCell ⟨nz, i, none⟩ t) gx gy gv gh ga gm gc := by
  refine ⟨k.1, fun h => ?_⟩
  obtain ⟨a, b, c, d, e, e2, f, g, h1, h2, h3⟩ := k.2 h
  have hn := hne h g h1
  refine ⟨a, b, c, d, e, e2, f, g, h1, by simpa [World.setCell] using h2, fun j hj => ?_⟩
  rw [World.cell?_setCell_other _ _ _ _ (show (⟨nz, i, none⟩ : Addr) ≠ ⟨g, 0 + j, none⟩ from fun e => hn (congrArg Addr.block e))]
  exact h3 j hj
theorem JoinAns.got {w0 : World} {X Y W H : Int} {ps : Nat → Fr} {P : Nat} {e : Ending} {w : World} (h : JoinAns w0 X Y W H ps P e w) :
    ∃ gx gy gv gh ga gm gc, e = .returned (.tuple #[.agg #[.int .i64 gx, .int .i64 gy, .int .i64 gv, .int .i64 gh, .slice ga gm gc], .int .i64 (joE X Y W H ps P)]) ∧ GotF (joE X Y W H ps P) X Y W H (jO X Y W.toNat ps P) w gx gy gv gh ga gm gc ∧ (joE X Y W H ps P = 0 → ∀ g, ga = some ⟨g, 0, none⟩ → w0.heap.size < g) := by
  rcases h with ⟨h0, rfl⟩ | ⟨h0, g, m, hm, rfl, hm2, hgn, hg, hc⟩
  · exact ⟨0, 0, 0, 0, none, 0, 0, rfl, ⟨fun _ => ⟨rfl, rfl, rfl, rfl, rfl, rfl, rfl⟩, fun h => absurd h h0⟩, fun h => absurd h h0⟩
  · refine ⟨X, Y, W, H, some ⟨g, 0, none⟩, m, m, by rw [h0], ⟨fun h => absurd h0 h, fun _ => ⟨rfl, rfl, rfl, rfl, hm2, rfl, hm, g, rfl, hg, hc⟩⟩, fun _ g' he => by cases he; omega⟩
theorem ColAns.got {X Y W H : Int} {ts : Nat → Tk} {nT : Nat} {ks : Nat → Fr} {n : Nat} {no : Int} {e : Ending} {w : World} (h : ColAns X Y W H ts nT ks n no e w) :
    ∃ gx gy gv gh ga gm gc, e = .returned (.tuple #[.agg #[.int .i64 gx, .int .i64 gy, .int .i64 gv, .int .i64 gh, .slice ga gm gc], .int .i64 (clE X Y W H ts nT ks n no)]) ∧ GotF (clE X Y W H ts nT ks n no) X Y W H (jO X Y W.toNat (fun q => (ptL ks ts no n).getD q default) (ptL ks ts no n).length) w gx gy gv gh ga gm gc := by
  rcases h with ⟨h0, rfl⟩ | ⟨h0, g, m, hm, rfl, hm2, hg, hc⟩
  · exact ⟨0, 0, 0, 0, none, 0, 0, rfl, fun _ => ⟨rfl, rfl, rfl, rfl, rfl, rfl, rfl⟩, fun h => absurd h h0⟩
  · refine ⟨X, Y, W, H, some ⟨g, 0, none⟩, m, m, by rw [h0], fun h => absurd h0 h, fun _ => ⟨rfl, rfl, rfl, rfl, hm2, rfl, hm, g, rfl, hg, hc⟩⟩
def CoPsi (ef : Int) (f : FuncId) (args : Array Value) (u : Value) : Prop :=
  if f = 20 then u = .int .i64 ef else u = .int .i64 (whenE (argB args 0) (argI args 1))
theorem cop_f {ef : Int} {args : Array Value} {u : Value} : CoPsi ef 20 args u ↔ u = .int .i64 ef := by unfold CoPsi; rw [if_pos rfl]
theorem cop_w {ef : Int} {b : Bool} {c : Int} {u : Value} : CoPsi ef 15 #[.bool b, .int .i64 c] u ↔ u = .int .i64 (whenE b c) := by unfold CoPsi; rw [if_neg (by decide)]; rfl
theorem firstN_one (f : Nat → Int) (i : Nat) : firstN f (i + 1) = firstE (firstN f i) (f i) := rfl
end Go.Proofs.Ytnicamndlkdcmaa

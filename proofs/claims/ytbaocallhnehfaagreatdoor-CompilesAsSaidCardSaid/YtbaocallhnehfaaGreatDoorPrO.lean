/- A program of steps that came in, opened. Plain laws of the form. No condition. -/
import Derived.Test.YtbaocallhnehfaaGreatDoorPrA
set_option linter.unusedVariables false
namespace Go.Proofs.YtbaocallhnehfaaGreatDoor
open Go Go.RowKit Go.ChangeShapes Go.WideShapes Go.ChangeAt
section
variable {H : Type} {enc : TypeId × Value → H} {w : World} {base : Nat} {held : Bool} {fuel : Nat} {cs : List Value} {x : DataW H × List MemPlace}
theorem rowP_list {w : World} {D : Type} (g : D → Value) (f : Nat → D) {a : Option Addr} {l n : Nat} (h : RowP w a l n 1 (fun i => [g (f i)])) : (List.range l).map f = [] ∨ ∃ b off, a = some ⟨b, off, none⟩ ∧ b < w.heap.size ∧ ∀ i v, ((List.range l).map f)[i]? = some v → w.cell? ⟨b, off + i, none⟩ = some (g v) := by
  rcases Nat.eq_zero_or_pos l with h0 | h0
  · subst h0; exact .inl rfl
  · obtain ⟨b, off, rfl, hc⟩ := h.get h0
    refine .inr ⟨b, off, rfl, cell_lt (hc 0 _ rfl), fun i v hv => ?_⟩
    have hi : i < l := by
      have := (List.getElem?_eq_some_iff.1 hv).1
      simpa using this
    rw [List.getElem?_map, List.getElem?_range hi] at hv
    simp only [Option.map_some, Option.some.injEq] at hv
    subst hv
    rcases h.at_ with h1 | ⟨b', off', he, h2⟩
    · omega
    · simp only [Option.some.injEq, Addr.mk.injEq, and_true] at he
      obtain ⟨rfl, rfl⟩ := he
      have h3 := h2 i hi 0 _ rfl
      rw [Nat.mul_one, Nat.add_zero] at h3
      exact h3
theorem all_list {D : Type} {f : Nat → D} {l : Nat} {Pr : D → Prop} (h : ∀ i, i < l → Pr (f i)) : ∀ v ∈ (List.range l).map f, Pr v := fun v hv => by
  obtain ⟨i, hi, rfl⟩ := List.mem_map.1 hv
  exact h i (List.mem_range.1 hi)
theorem one_string (h : DataW.trod enc Tryz.prog w base (fun _ => true) held fuel 9 cs = some x) (hlen : cs.length = 1) : ∃ s : ByteArray, (∀ (j : Nat) (u : Value), [Value.string s][j]? = some u → cs[j]? = some u) ∧ s.size ≤ maxLen := by
  obtain ⟨s, h1, -, h2⟩ := DataW.trod_string Tryz.underlying9 h
  subst h1
  exact ⟨s, fun j u hu => hu, h2⟩
theorem one_int (h : DataW.trod enc Tryz.prog w base (fun _ => true) held fuel 3 cs = some x) (hlen : cs.length = 1) : ∃ s : Int, (∀ (j : Nat) (u : Value), [Value.int .i64 s][j]? = some u → cs[j]? = some u) ∧ Int64 s := by
  obtain ⟨s, h1, h2, h3⟩ := tr_i64 Tryz.underlying3 h
  subst h1
  exact ⟨s, fun j u hu => hu, by simpa [Int64, IntKind.min, IntKind.max, IntKind.signed, IntKind.bits] using And.intro h2 h3⟩
theorem one_real (h : DataW.trod enc Tryz.prog w base (fun _ => true) held fuel 41 cs = some x) (hlen : cs.length = 1) : ∃ s : Nat, (∀ (j : Nat) (u : Value), [Value.float .f32 s][j]? = some u → cs[j]? = some u) ∧ s < 2 ^ 32 := by
  obtain ⟨s, h1, h2⟩ := trod_float Tryz.underlying41 h
  subst h1
  exact ⟨s, fun j u hu => hu, by simpa [Lit.wf] using h2⟩
theorem cp_step : Tryz.prog.cellsOf 48 = 5 := by kernel_rfl
theorem cp_string : Tryz.prog.cellsOf 9 = 1 := by kernel_rfl
theorem cp_int : Tryz.prog.cellsOf 3 = 1 := by kernel_rfl
theorem cp_float : Tryz.prog.cellsOf 41 = 1 := by kernel_rfl
theorem cp_strings : Tryz.prog.cellsOf 46 = 1 := by kernel_rfl
theorem cp_ints : Tryz.prog.cellsOf 35 = 1 := by kernel_rfl
theorem cp_floats : Tryz.prog.cellsOf 36 = 1 := by kernel_rfl
theorem lp0 : LeafP Tryz.prog 48 0 9 := .field (off := 0) (ts := 9) 0 Tryz.underlying48 rfl cp_string (by decide) (.self cp_string)
theorem lp1 : LeafP Tryz.prog 48 1 9 := .field (off := 1) (ts := 9) 1 Tryz.underlying48 rfl cp_string (by decide) (.self cp_string)
theorem lp2 : LeafP Tryz.prog 48 2 46 := .field (off := 2) (ts := 46) 2 Tryz.underlying48 rfl cp_strings (by decide) (.self cp_strings)
theorem lp3 : LeafP Tryz.prog 48 3 35 := .field (off := 3) (ts := 35) 3 Tryz.underlying48 rfl cp_ints (by decide) (.self cp_ints)
theorem lp4 : LeafP Tryz.prog 48 4 36 := .field (off := 4) (ts := 36) 4 Tryz.underlying48 rfl cp_floats (by decide) (.self cp_floats)
theorem open_step (h : DataW.trod enc Tryz.prog w base (fun _ => true) held fuel 48 cs = some x) (hlen : cs.length = 5) : ∃ s : StepD, (∀ (j : Nat) (u : Value), (stL s)[j]? = some u → cs[j]? = some u) ∧ StepAt w s := by
  obtain ⟨c0, m0, y0, e0, t0⟩ := atP_ lp0 cp_step h hlen (by decide)
  obtain ⟨c1, m1, y1, e1, t1⟩ := atP_ lp1 cp_step h hlen (by decide)
  obtain ⟨c2, m2, y2, e2, t2⟩ := atP_ lp2 cp_step h hlen (by decide)
  obtain ⟨c3, m3, y3, e3, t3⟩ := atP_ lp3 cp_step h hlen (by decide)
  obtain ⟨c4, m4, y4, e4, t4⟩ := atP_ lp4 cp_step h hlen (by decide)
  obtain ⟨nm, n1, -, n2⟩ := DataW.trod_string Tryz.underlying9 t0
  obtain ⟨op, o1, -, o2⟩ := DataW.trod_string Tryz.underlying9 t1
  simp at n1 o1
  subst n1 o1
  obtain ⟨ia, il, ic, rfl⟩ := is_slice Tryz.underlying46 t2
  obtain ⟨na, nl, nc, rfl⟩ := is_slice Tryz.underlying35 t3
  obtain ⟨ra, rl, rc, rfl⟩ := is_slice Tryz.underlying36 t4
  obtain ⟨fi, i1, i2⟩ := open_rowP (D := ByteArray) (fun s => [Value.string s]) (fun s => s.size ≤ maxLen) Tryz.underlying46 cp_string (by decide) (fun m cs y h1 h2 => one_string h1 h2) t2
  obtain ⟨fk, k1, k2⟩ := open_rowP (D := Int) (fun s => [Value.int .i64 s]) Int64 Tryz.underlying35 cp_int (by decide) (fun m cs y h1 h2 => one_int h1 h2) t3
  obtain ⟨fr, r1, r2⟩ := open_rowP (D := Nat) (fun s => [Value.float .f32 s]) (fun s => s < 2 ^ 32) Tryz.underlying36 cp_float (by decide) (fun m cs y h1 h2 => one_real h1 h2) t4
  refine ⟨⟨nm, op, (List.range il).map fi, (List.range nl).map fk, (List.range rl).map fr, ia, ic, na, nc, ra, rc⟩, fun j u hu => ?_, ?_⟩
  · have hjl : j < 5 := (List.getElem?_eq_some_iff.1 hu).1
    generalize hG : stL _ = G at hu
    have hall : allP (fun j => cs[j]? = G[j]?) 5 := by
      subst hG
      unfold stL
      simp only [List.length_map, List.length_range]
      exact ⟨⟨⟨⟨⟨trivial, e0⟩, e1⟩, e2⟩, e3⟩, e4⟩
    rw [allP_at hall j hjl]; exact hu
  · refine ⟨n2, o2, rowP_list _ _ i1, all_list i2, ?_, ?_, all_list r2, all_list k2, ?_, ?_, ?_⟩
    · rcases rowP_list _ _ k1 with h1 | ⟨b, off, h1, h2, h3⟩
      · exact .inl h1
      · exact .inr ⟨b, off, h1, Nat.zero_le _, h2, h3⟩
    · rcases rowP_list _ _ r1 with h1 | ⟨b, off, h1, h2, h3⟩
      · exact .inl h1
      · exact .inr ⟨b, off, h1, Nat.zero_le _, h2, h3⟩
    · simp only [List.length_map, List.length_range]; exact ⟨i1.lc, i1.lm⟩
    · simp only [List.length_map, List.length_range]; exact ⟨k1.lc, k1.lm⟩
    · simp only [List.length_map, List.length_range]; exact ⟨r1.lc, r1.lm⟩
theorem open_prog {a : Option Addr} {n c : Nat} (h : DataW.trod enc Tryz.prog w base (fun _ => true) held fuel 22 [.slice a n c] = some x) : ∃ S, StepsAt w a c n S := by
  obtain ⟨S, h1, h2⟩ := open_rowP (D := StepD) stL (StepAt w) Tryz.underlying22 cp_step (by decide) (fun m cs y h1 h2 => open_step h1 h2) h
  exact ⟨S, h1, h2⟩
end
end Go.Proofs.YtbaocallhnehfaaGreatDoor

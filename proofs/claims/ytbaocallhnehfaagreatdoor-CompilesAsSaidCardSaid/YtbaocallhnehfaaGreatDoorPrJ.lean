/- Rows appended behind nothing, in a region that draws its order. Conditions: what each theorem names. -/
import Derived.Test.YtbaocallhnehfaaGreatDoorPrH
import Derived.Laws.OwnMore
set_option linter.unusedVariables false
namespace Go.Proofs.YtbaocallhnehfaaGreatDoor
open Go Go.RowKit
theorem wpAnyC_worldP {P : Program} {md : Region.Mode} {ops : Array Oper} {Q : Exit → Act → World → Prop} {C : World → Prop} {A fuel : Nat} {listed : Array Bool} {a : Act} {w : World} (h : ∀ W, W = w → wpAnyC P md ops Q C A fuel listed a W) : wpAnyC P md ops Q C A fuel listed a w := h w rfl
section
variable {P : Program} {ops : Array Oper} {Q : Exit → Act → World → Prop} {md : Region.Mode} {C : World → Prop} {A : Nat}
end
section
variable {P : Program} {ops : Array Oper} {o : Oper} {a : Act} {w : World} {K : Act → World → Prop} {Q : Exit → Act → World → Prop} {E : Prop}
/-- Some elements behind nothing: a new row; the elements may be none. -/
theorem step_append_any (hgd : o.guard = none) (s x : Operand) (t : TypeId)
    (ho : o.op = .call { callee := .builtin .append, args := #[s, x], argTypes := #[t, t] })
    {e : TypeId} {i : TypeInfo} {z : Value} {bytes : Nat} (ht : P.underlying t = some (.slice e)) (hi : P.info? e = some i) (hz : i.zero = some z) (hsize : i.size = 1) (hby : i.bytes = bytes) (hzs : z.cells.size = 1)
    (hs : a.eval s = .slice none 0 0) (ao : Option Addr) (m c : Nat) (news : List Value) (hx : a.eval x = .slice ao m c) (hl : news.length = m)
    (hn : m = 0 ∨ ∃ b off, ao = some ⟨b, off, none⟩ ∧ ∀ j u, news[j]? = some u → w.cell? ⟨b, off + j, none⟩ = some u) (h1 : ∀ u ∈ news, u.oneCell' = true)
    (h63 : m ≤ maxLen) (hbytes : m * bytes ≤ 140737488355328)
    (hK : ∀ v' w', NewRow w.heap.size w' 1 v' m news → Below w.heap.size w w' → K (a.put o.dst v') w') :
    if Region.wanted o (yielded ops a.tmps) = true then Oper.wp P o a w K Q else E := by
  cases ao with
  | some ad =>
    refine step_append_new hgd s x t ho ht hi hz hsize hby hzs (by decide) hs ad m c news hx (by rw [hl, Nat.mul_one]) (fun j u hu => ?_) h1 h63 hbytes hK
    rcases hn with h0 | ⟨b, off, h2, h3⟩
    · subst h0
      rw [List.eq_nil_of_length_eq_zero hl] at hu
      simp at hu
    · cases h2
      rw [Addr.add_lit]; exact h3 j u hu
  | none =>
    have hm : m = 0 := by
      rcases hn with h0 | ⟨b, off, h2, -⟩
      · exact h0
      · cases h2
    subst hm
    have hw : Region.wanted o (yielded ops a.tmps) = true := by simp [Region.wanted, hgd]
    rw [if_pos hw]
    have hrun : (Builtin.append_ #[t, t] o.type #[.slice none 0 0, .slice none 0 c]).run P w = .ok (.slice none 0 0) w := by
      simp [Builtin.append_, run_underlying ht, sizeOf, typeInfo, hi, Builtin.lenOf, Builtin.firstCells]
    rw [List.eq_nil_of_length_eq_zero hl] at hK
    unfold Oper.wp
    simp [execOp, ho, resolve, invoke, builtin, hs, hx, hrun, Result.andThen]
    exact hK _ _ (NewRow.nil _ _ _) (Below.refl _ _)
end
theorem IntsAt.row {B : Nat} {w : World} {a : Option Addr} {l : List Int} (h : IntsAt B w a l) : l.length = 0 ∨ ∃ b off, a = some ⟨b, off, none⟩ ∧ ∀ (j : Nat) (u : Value), (l.map (Value.int .i64))[j]? = some u → w.cell? ⟨b, off + j, none⟩ = some u := by
  rcases h with h | ⟨b, off, h1, -, -, h3⟩
  · exact .inl (by rw [h]; rfl)
  · refine .inr ⟨b, off, h1, fun j u hu => ?_⟩
    rw [List.getElem?_map, Option.map_eq_some_iff] at hu
    obtain ⟨v, hv, rfl⟩ := hu
    exact h3 j v hv
theorem RealsAt.row {B : Nat} {w : World} {a : Option Addr} {l : List Nat} (h : RealsAt B w a l) : l.length = 0 ∨ ∃ b off, a = some ⟨b, off, none⟩ ∧ ∀ (j : Nat) (u : Value), (l.map (Value.float .f32))[j]? = some u → w.cell? ⟨b, off + j, none⟩ = some u := by
  rcases h with h | ⟨b, off, h1, -, -, h3⟩
  · exact .inl (by rw [h]; rfl)
  · refine .inr ⟨b, off, h1, fun j u hu => ?_⟩
    rw [List.getElem?_map, Option.map_eq_some_iff] at hu
    obtain ⟨v, hv, rfl⟩ := hu
    exact h3 j v hv
theorem one_ints (l : List Int) : ∀ u ∈ l.map (Value.int .i64), u.oneCell' = true := fun u hu => by obtain ⟨v, -, rfl⟩ := List.mem_map.1 hu; rfl
theorem one_reals (l : List Nat) : ∀ u ∈ l.map (Value.float .f32), u.oneCell' = true := fun u hu => by obtain ⟨v, -, rfl⟩ := List.mem_map.1 hu; rfl
theorem infoIntN : (Tryz.prog.info? 3).map (fun i => (i.zero, i.size, i.bytes)) = some (some (.int .i64 0), 1, 8) := by kernel_rfl
theorem F_lens {k : Nat} (hk : k < 27) : (F k).ins.length ≤ 9 ∧ (F k).ints ≤ 9 ∧ (F k).reals ≤ 9 := by
  have : ∀ k, k < 27 → (F k).ins.length ≤ 9 ∧ (F k).ints ≤ 9 ∧ (F k).reals ≤ 9 := by decide +kernel
  exact this k hk
theorem NewRow.mono {B B' : Nat} {w : World} {sz : Nat} {v : Value} {n : Nat} {xs : List Value} (h : NewRow B w sz v n xs) (hb : B' ≤ B) : NewRow B' w sz v n xs := ⟨h.1, fun b hb' => Nat.le_trans hb (h.2 b hb')⟩
end Go.Proofs.YtbaocallhnehfaaGreatDoor

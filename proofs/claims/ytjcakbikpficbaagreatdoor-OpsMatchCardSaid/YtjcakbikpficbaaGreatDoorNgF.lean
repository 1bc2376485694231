/- node.Compile's inner function at the step 'a fill ..' of the name a, none being made yet. Conditions: its cells can be read; the library's variables read as listed (LibW). -/
import Derived.Test.YtjcakbikpficbaaGreatDoorNgE
import Derived.Test.YtjcakbikpficbaaGreatDoorHeldU
namespace Go.Proofs.YtjcakbikpficbaaGreatDoor
open Go Go.RowKit
section
variable {P : Program}
/-- Some elements behind nothing, in a region that draws its order: a new row. -/
theorem step_append_new {ops : Array Oper} {o : Oper} {a : Act} {w : World} {K : Act → World → Prop} {Q : Exit → Act → World → Prop} {E : Prop} (hgd : o.guard = none) (s x : Operand) (t : TypeId)
    (ho : o.op = .call { callee := .builtin .append, args := #[s, x], argTypes := #[t, t] })
    {e : TypeId} {i : TypeInfo} {z : Value} {size bytes : Nat} (ht : P.underlying t = some (.slice e)) (hi : P.info? e = some i) (hz : i.zero = some z) (hsize : i.size = size) (hby : i.bytes = bytes) (hzs : z.cells.size = size) (hsz : 0 < size)
    (hs : a.eval s = .slice none 0 0) (ad : Addr) (m c : Nat) (news : List Value) (hx : a.eval x = .slice (some ad) m c) (hl : news.length = m * size) (hnews : ∀ j u, news[j]? = some u → w.cell? (ad.add j) = some u) (h1 : ∀ u ∈ news, u.oneCell' = true)
    (h63 : m ≤ maxLen) (hbytes : m * bytes ≤ 140737488355328)
    (hK : ∀ v' w', NewRow w.heap.size w' size v' m news → Below w.heap.size w w' → K (a.put o.dst v') w') :
    if Region.wanted o (yielded ops a.tmps) = true then Oper.wp P o a w K Q else E := by
  have hw : Region.wanted o (yielded ops a.tmps) = true := by simp [Region.wanted, hgd]
  rw [if_pos hw]
  subst hsize
  obtain ⟨v', w', hrun, r1, r2, -⟩ := run_append_own (P := P) w w.heap.size t o.type e i z i.size bytes ht hi hz rfl hby hzs hsz (.slice none 0 0) 0 [] (World.ownsRow_nil w _ e i.size) ad m c news hl hnews h1 (by omega) (by rw [Nat.zero_add]; exact hbytes) (Nat.le_refl _)
  unfold Oper.wp
  simp [execOp, ho, resolve, invoke, builtin, hs, hx, hrun, Result.andThen]
  rw [Nat.zero_add, List.nil_append] at r1
  exact hK v' w' ⟨RowV.of_own r1, fun b hb => (r1.lt b hb).1⟩ (Below.grown (Below.refl _ _) r2 (Nat.le_refl _) (fun j hj => by simp [Value.ownBlock] at hj))
end
section
variable {P : Program} {ops : Array Oper} {Q : Exit → Act → World → Prop} {md : Region.Mode} {C : World → Prop} {A : Nat}
/-- Two may come up. -/
theorem wpAnyC_two' {i j : Nat} {oi oj : Oper} {fuel : Nat} {listed : Array Bool} {a : Act} {w : World} (hoi : ops[i]? = some oi) (hoj : ops[j]? = some oj) (hr : Region.ready md ops listed = [i, j])
    (hi : ∀ K : Act → World → Prop, (∀ a w, ((listed.setIfInBounds i true).getD A true = false → C w) → wpAnyC P md ops Q C A fuel (listed.setIfInBounds i true) a w → K a w) → if Region.wanted oi (yielded ops a.tmps) = true then Oper.wp P oi a w K Q else K (a.put oi.dst undef) w)
    (hj : ∀ K : Act → World → Prop, (∀ a w, ((listed.setIfInBounds j true).getD A true = false → C w) → wpAnyC P md ops Q C A fuel (listed.setIfInBounds j true) a w → K a w) → if Region.wanted oj (yielded ops a.tmps) = true then Oper.wp P oj a w K Q else K (a.put oj.dst undef) w) :
    wpAnyC P md ops Q C A (fuel + 1) listed a w :=
  ⟨fun h0 => (by rw [hr] at h0; cases h0), fun k hk => by
    rw [hr] at hk
    rcases (show k = i ∨ k = j by simpa using hk) with rfl | rfl
    · exact wpOp_step hoi (fun K' hK => hi K' (fun a w h1 h2 => hK a w ⟨h1, h2⟩))
    · exact wpOp_step hoj (fun K' hK => hj K' (fun a w h1 h2 => hK a w ⟨h1, h2⟩))⟩
end
set_option maxRecDepth 100000 in
set_option maxHeartbeats 1600000 in
theorem same_fill (ar : Option Addr) (cr : Nat) (w : World) : Calls Tryz.prog 59 #[.agg #[.string ⟨#[97]⟩, .string ⟨#[102, 105, 108, 108]⟩, .slice none 0 0, .slice none 0 0, .slice ar 4 cr]] w fun e w' => e = .returned (.int .i64 (-1)) ∧ Below w.heap.size w w' := by
  go_enter Tryz.func59, Tryz.ntmps59
  go_wp2_with fail
  go_ret
  exact ⟨rfl, by (repeat (first | exact Below.refl _ _ | assumption | (refine Below.setCell ?_ (by first | (simp; done) | (simp; omega) | omega) _) | (refine Below.drew ?_) | (refine below_drewN ?_ _) | (refine Below.alloc ?_ (by first | (simp; done) | (simp; omega) | omega) _) | (refine Below.trans ?_ (Below.mono (by assumption) (by first | (simp; done) | (simp; omega) | omega)))))⟩
def stepV (ar : Option Addr) (cr : Nat) : Value := .agg #[.string ⟨#[97]⟩, .string ⟨#[102, 105, 108, 108]⟩, .slice none 0 0, .slice none 0 0, .slice ar 4 cr]
theorem zeroStep (w : World) : (zeroValue 107).run Tryz.prog w = .ok (.agg #[.string ⟨#[]⟩, .string ⟨#[]⟩, .slice none 0 0, .slice none 0 0, .slice none 0 0]) w := by kernel_rfl
/-- What the inner function works on. -/
structure NeedW (w : World) (pm ps pk pg mm ms mk : Nat) (ar : Option Addr) (cr : Nat) : Prop where
  m : Blk w pm [.map (some mm)]
  s : Blk w ps [.map (some ms)]
  k : Blk w pk [.map (some mk)]
  g : Blk w pg [.slice none 0 0, .int .i64 0]
  om : w.ownsMap Tryz.prog 9 heldV mm 0 (.map [])
  os : w.ownsMap Tryz.prog 9 heldV ms 1 ((DataW.map []).put (keyS ⟨#[97]⟩) (.held (stepV ar cr)))
  ok : w.ownsMap Tryz.prog 9 heldV mk 0 (.map [])
  ne : mm ≠ mk
  ne2 : pm ≠ pg
theorem NeedW.past {w w' : World} {pm ps pk pg mm ms mk : Nat} {ar : Option Addr} {cr : Nat} (h : NeedW w pm ps pk pg mm ms mk ar cr) (hb : Below w.heap.size w w') : NeedW w' pm ps pk pg mm ms mk ar cr :=
  ⟨h.m.past hb, h.s.past hb, h.k.past hb, h.g.past hb, ownsMap_block h.om (hb.block _ h.om.lt), ownsMap_block h.os (hb.block _ h.os.lt), ownsMap_block h.ok (hb.block _ h.ok.lt), h.ne, h.ne2⟩
theorem blk_ne_map {P : Program} {k : TypeId} {R : Value → Option (DataW Value × List MemPlace)} {w : World} {n b m : Nat} {v : Value} {vs : List Value} {D : DataW Value} (h : Blk w n (v :: vs)) (o : w.ownsMap P k R b m D) : n ≠ b := fun e => by
  subst e
  obtain ⟨es, clock, hb, -⟩ := o
  have := h.c 0 _ rfl
  simp [World.cell?, hb] at this
theorem nf_exit {next : Act → World → Prop} {Q : Exit → Act → World → Prop} {e : Exit} {a : Act} {w : World} (h : ∀ W, W = w → Exit.then next Q e a W) : Exit.then next Q e a w := h w rfl
theorem RealsAt.tch {B : Nat} {S : Nat → Prop} {w w' : World} {a : Option Addr} {l : List Nat} (h : RealsAt B w a l) (t : Tch S w w') (hn : ∀ b, S b → b < B) : RealsAt B w' a l := by
  rcases h with h | ⟨b, off, h1, h0, h2, h3⟩
  · exact .inl h
  · exact .inr ⟨b, off, h1, h0, Nat.lt_of_lt_of_le h2 t.size, fun i v hv => by rw [World.cell?_of_block (a := ⟨b, off + i, none⟩) (t.block b h2 (fun hS => by have := hn b hS; omega))]; exact h3 i v hv⟩
theorem NewRow.reals {B : Nat} {w : World} {a : Option Addr} {n c : Nat} {l : List Nat} (h : NewRow B w 1 (.slice a n c) n (l.map (Value.float .f32))) : RealsAt B w a l := by
  obtain ⟨⟨h0, ao, cap, e, h1, h2, h3⟩, h4⟩ := h
  injection e with e1 e2 e3
  subst e1 e3
  have hn : l.length = n := by simpa using h0
  rcases h3 with ⟨rfl, h3⟩ | ⟨b, off, rfl, h5, h6, h7⟩
  · exact .inl (List.eq_nil_of_length_eq_zero (by omega))
  · exact .inr ⟨b, off, rfl, h4 b rfl, h5, fun i v hv => h6 i _ (by rw [List.getElem?_map, hv]; rfl)⟩
/-- What the inner function leaves: one node. -/
def NeedP (pm pg mm mk : Nat) (w w' : World) : Prop := (∃ ao c, Blk w' pg [.slice ao 1 c, .int .i64 0]) ∧ Tch (fun b => b = pg ∨ b = mm ∨ b = mk) w w' ∧ pm = pm
theorem infoNode : (Tryz.prog.info? 51).map (fun i => (i.zero, i.size, i.bytes)) = some (some (.agg #[.string ⟨#[]⟩, .slice none 0 0, .slice none 0 0, .slice none 0 0]), 4, 88) := by kernel_rfl
theorem four_new (w : World) (ty : TypeId) (v0 v1 v2 v3 : Value) : ∀ j u, [v0, v1, v2, v3][j]? = some u → (w.alloc (.cells #[v0, v1, v2, v3] ty)).cell? ((⟨w.heap.size, 0, none⟩ : Addr).add j) = some u := fun j u hj => by
  rw [Addr.add_lit, Nat.zero_add, World.cell?_alloc_new]
  simpa using hj
theorem four_one (s : ByteArray) (a b c : Option Addr) (n m k d e f : Nat) : ∀ u ∈ [Value.string s, .slice a n d, .slice b m e, .slice c k f], u.oneCell' = true := fun u hu => by
  simp only [List.mem_cons, List.not_mem_nil, or_false] at hu
  rcases hu with rfl | rfl | rfl | rfl <;> rfl
theorem infoF32N : (Tryz.prog.info? 54).map (fun i => (i.zero, i.size, i.bytes)) = some (some (.float .f32 0), 1, 4) := by kernel_rfl
set_option maxRecDepth 100000 in
set_option maxHeartbeats 6400000 in
theorem need_one (pm ps pn pk pg mm ms mk : Nat) (br ro cr : Nat) (rs : List Nat) (w : World) (hL : LibW w) (h : NeedW w pm ps pk pg mm ms mk (some ⟨br, ro, none⟩) cr) (hr : rs.length = 4) (hR : RealsAt 0 w (some ⟨br, ro, none⟩) rs) :
    Calls Tryz.prog 58 #[.string ⟨#[97]⟩, .pointer (some ⟨pm, 0, none⟩), .pointer (some ⟨ps, 0, none⟩), .pointer (some ⟨pn, 0, none⟩), .pointer (some ⟨pk, 0, none⟩), .pointer (some ⟨pg, 0, none⟩)] w fun e w' => e = .returned (.int .i64 0) ∧ NeedP pm pg mm mk w w' := by
  have HH := Lib.hid (And.intro hL (And.intro h (And.intro hr hR)))
  have q0 := h.m.c 0 _ rfl; have ql := h.m.lt
  have s0 := h.s.c 0 _ rfl; have sl := h.s.lt
  have hat : ((DataW.map []).put (keyS ⟨#[97]⟩) (DataW.held (stepV (some ⟨br, ro, none⟩) cr))).atKey (keyS ⟨#[97]⟩) (.held (.agg #[.string ⟨#[]⟩, .string ⟨#[]⟩, .slice none 0 0, .slice none 0 0, .slice none 0 0])) = .held (stepV (some ⟨br, ro, none⟩) cr) := Maps.atKey_put_same ⟨_, rfl⟩ (lawStr.key (keyS_mk (nm := ⟨#[97]⟩) (by decide))) _ _
  unfold stepV at hat
  clear hL hr hR h
  go_enter Tryz.func58, Tryz.ntmps58
  go_upto_region 5 with (first | (at_lookup; refine wpList_look1 _ rfl _ _ 108 rfl 9 3 lawStr Tryz.underlying108 (zeroI _) mm 0 (.map []) rfl HH.out.2.1.om _ (keyS ⟨#[97]⟩) rfl (keyS_mk (by decide)) (.int .i64 0) false rfl rfl ?_) | (at_lookup; refine wpList_look0 _ rfl _ _ 105 rfl 9 107 lawStr Tryz.underlying105 (zeroStep _) ms 1 _ rfl HH.out.2.1.os _ (keyS ⟨#[97]⟩) rfl (keyS_mk (by decide)) _ hat ?_))
  refine wp_world (fun V hV => ?_)
  have HV : Hid (Blk V w.heap.size [.string ⟨#[97]⟩, .string ⟨#[102, 105, 108, 108]⟩, .slice none 0 0, .slice none 0 0, .slice (some ⟨br, ro, none⟩) 4 cr] ∧ Below w.heap.size w V) := Lib.hid (by rw [hV]; exact ⟨Blk.new _ _ _ _ rfl, by (repeat (first | exact Below.refl _ _ | assumption | (refine Below.setCell ?_ (by first | (simp; done) | (simp; omega) | omega) _) | (refine Below.drew ?_) | (refine below_drewN ?_ _) | (refine Below.alloc ?_ (by first | (simp; done) | (simp; omega) | omega) _) | (refine Below.trans ?_ (Below.mono (by assumption) (by first | (simp; done) | (simp; omega) | omega)))))⟩)
  clear hV hat q0 ql s0 sl
  have m0 := HV.out.1.c 0 _ rfl; have m1 := HV.out.1.c 1 _ rfl; have m2 := HV.out.1.c 2 _ rfl; have m3 := HV.out.1.c 3 _ rfl; have m4 := HV.out.1.c 4 _ rfl
  have ml := HV.out.1.lt
  go_upto_region 9 with (go_at_call 59; refine (same_fill _ _ _).mono ?_; rintro e v1 ⟨rfl, hb1⟩; replace HV := Lib.hid (And.intro (HV.out.1.past hb1) (HV.out.2.trans (hb1.mono HV.out.2.size))); clear hb1)
  obtain ⟨i0, hi0, hz0, hz1, hz2⟩ := info_parts infoF32N
  have HCP : Hid (∀ w', Below v1.heap.size v1 w' → w'.cell? ⟨w.heap.size, 1, none⟩ = some (.string ⟨#[102, 105, 108, 108]⟩) ∧ w'.cell? ⟨w.heap.size, 3, none⟩ = some (.slice none 0 0) ∧ w'.cell? ⟨w.heap.size, 4, none⟩ = some (.slice (some ⟨br, ro, none⟩) 4 cr)) := Lib.hid (fun w' h' => have h := HV.out.1.past h'; ⟨h.c 1 _ rfl, h.c 3 _ rfl, h.c 4 _ rfl⟩)
  clear m0 m1 m2 m3 m4 ml
  refine wp_region_C (fun w' => w'.cell? ⟨w.heap.size, 1, none⟩ = some (.string ⟨#[102, 105, 108, 108]⟩) ∧ w'.cell? ⟨w.heap.size, 3, none⟩ = some (.slice none 0 0) ∧ w'.cell? ⟨w.heap.size, 4, none⟩ = some (.slice (some ⟨br, ro, none⟩) 4 cr)) 10 11 (by kernel_rfl) rfl ?_
  have hC := HCP.out v1.drew ((Below.refl _ _).drew)
  refine wpAnyC_take (i := 0) (v := .pointer (some ⟨w.heap.size, 1, none⟩)) rfl (by kernel_rfl) (by kernel_rfl) (fun _ _ _ h => h) (.inl ⟨rfl, fun w' hw' => ?_⟩) hC ?_
  · obtain ⟨k0, k1, k2⟩ := hw'
    go_simp
  refine wpAnyC_act (by rfl) ?_
  simp only [Act.put, List.setIfInBounds_toArray, List.set_cons_zero, List.set_cons_succ]
  refine wpAnyC_take (i := 1) (v := .string ⟨#[102, 105, 108, 108]⟩) rfl (by kernel_rfl) (by kernel_rfl) (fun _ _ _ h => h) (.inl ⟨rfl, fun w' hw' => ?_⟩) hC ?_
  · obtain ⟨k0, k1, k2⟩ := hw'
    go_simp
  refine wpAnyC_act (by rfl) ?_
  simp only [Act.put, List.setIfInBounds_toArray, List.set_cons_zero, List.set_cons_succ]
  refine wpAnyC_take (i := 2) (v := .pointer (some ⟨w.heap.size, 3, none⟩)) rfl (by kernel_rfl) (by kernel_rfl) (fun _ _ _ h => h) (.inl ⟨rfl, fun w' hw' => ?_⟩) hC ?_
  · obtain ⟨k0, k1, k2⟩ := hw'
    go_simp
  refine wpAnyC_act (by rfl) ?_
  simp only [Act.put, List.setIfInBounds_toArray, List.set_cons_zero, List.set_cons_succ]
  refine wpAnyC_take (i := 3) (v := .slice none 0 0) rfl (by kernel_rfl) (by kernel_rfl) (fun _ _ _ h => h) (.inl ⟨rfl, fun w' hw' => ?_⟩) hC ?_
  · obtain ⟨k0, k1, k2⟩ := hw'
    go_simp
  refine wpAnyC_act (by rfl) ?_
  simp only [Act.put, List.setIfInBounds_toArray, List.set_cons_zero, List.set_cons_succ]
  refine wpAnyC_take (i := 4) (v := .slice none 0 0) rfl (by kernel_rfl) (by kernel_rfl) (fun _ _ _ h => h) (.inl ⟨rfl, fun w' hw' => ?_⟩) hC ?_
  · obtain ⟨k0, k1, k2⟩ := hw'
    go_simp
  refine wpAnyC_act (by rfl) ?_
  simp only [Act.put, List.setIfInBounds_toArray, List.set_cons_zero, List.set_cons_succ]
  refine wpAnyC_take (i := 5) (v := .pointer (some ⟨w.heap.size, 4, none⟩)) rfl (by kernel_rfl) (by kernel_rfl) (fun _ _ _ h => h) (.inl ⟨rfl, fun w' hw' => ?_⟩) hC ?_
  · obtain ⟨k0, k1, k2⟩ := hw'
    go_simp
  refine wpAnyC_act (by rfl) ?_
  simp only [Act.put, List.setIfInBounds_toArray, List.set_cons_zero, List.set_cons_succ]
  refine wpAnyC_take (i := 6) (v := .slice (some ⟨br, ro, none⟩) 4 cr) rfl (by kernel_rfl) (by kernel_rfl) (fun _ _ _ h => h) (.inl ⟨rfl, fun w' hw' => ?_⟩) hC ?_
  · obtain ⟨k0, k1, k2⟩ := hw'
    go_simp
  refine wpAnyC_act (by rfl) ?_
  simp only [Act.put, List.setIfInBounds_toArray, List.set_cons_zero, List.set_cons_succ]
  have hRV : RealsAt 0 v1.drew (some ⟨br, ro, none⟩) rs := (HH.out.2.2.2.past HV.out.2).past ((Below.refl _ _).drew)
  have HRS : Hid (∀ w', Below v1.heap.size v1 w' → ∀ j u, (rs.map (Value.float .f32))[j]? = some u → w'.cell? ((⟨br, ro, none⟩ : Addr).add j) = some u) := Lib.hid (fun w' h' j u hj => by
    rw [List.getElem?_map, Option.map_eq_some_iff] at hj
    obtain ⟨v, hv, rfl⟩ := hj
    obtain ⟨b', o', e, hc⟩ := ((HH.out.2.2.2.past HV.out.2).past h').get hv
    cases e
    rw [Addr.add_lit]; exact hc)
  clear hRV
  refine wpAnyC_two' (i := 7) (j := 9) rfl rfl (by kernel_rfl) (fun K hK => ?_) (fun K hK => ?_)
  · refine step_append_new rfl (.const (.slice none 0 0)) (.tmp 51) 49 rfl Tryz.underlying49 hi0 hz0 hz1 hz2 rfl (by decide) rfl ⟨br, ro, none⟩ 4 cr (rs.map (Value.float .f32)) rfl (by rw [List.length_map, HH.out.2.2.1]) (HRS.out _ ((Below.refl _ _).drew)) (fun u hu => by obtain ⟨v, -, rfl⟩ := List.mem_map.1 hu; rfl) (by decide) (by decide) ?_
    intro v2 w2 hR2 hB2
    have HR2 := Lib.hid (And.intro hR2 (((Below.refl _ _).drew).trans (hB2.mono (by simp)) : Below v1.heap.size v1 w2))
    obtain ⟨ao2, cp2, rfl⟩ := hR2.form
    clear hR2 hB2 hC
    refine hK _ _ (fun _ => HCP.out _ HR2.out.2) ?_
    clear hK K
    refine wpAnyC_act (by rfl) ?_
    simp only [Act.put, List.setIfInBounds_toArray, List.set_cons_zero, List.set_cons_succ]
    have hC := HCP.out _ HR2.out.2
    refine wpAnyC_take (i := 8) (v := .agg #[.string ⟨#[102, 105, 108, 108]⟩, .slice none 0 0, .slice none 0 0, .slice ao2 4 cp2]) rfl (by kernel_rfl) (by kernel_rfl) (fun _ _ _ h => h) (.inl ⟨rfl, fun w' hw' => ?_⟩) hC ?_
    · obtain ⟨k0, k1, k2⟩ := hw'
      go_simp
    refine wpAnyC_act (by rfl) ?_
    simp only [Act.put, List.setIfInBounds_toArray, List.set_cons_zero, List.set_cons_succ]
    refine wpAnyC_one (i := 9) rfl (by kernel_rfl) (fun K hK => ?_)
    go_simp
    refine hK _ _ (fun _ => HCP.out _ (HR2.out.2.alloc HR2.out.2.size _)) ?_
    clear hK K hC
    refine wpAnyC_one (i := 10) rfl (by kernel_rfl) (fun K hK => ?_)
    go_simp
    refine hK _ _ (fun h => by rw [getD_setSelf] at h; cases h) ?_
    clear hK K
    refine wpAnyC_done (by kernel_rfl) ?_
    refine nf_exit (fun W hW => ?_)
    obtain ⟨xb, hxb⟩ : ∃ xb, xb = w2.heap.size := ⟨_, rfl⟩
    have HT : Hid (Blk W xb [.string ⟨#[102, 105, 108, 108]⟩, .slice none 0 0, .slice none 0 0, .slice ao2 4 cp2] ∧ Below v1.heap.size v1 W ∧ RealsAt 0 W ao2 rs) := Lib.hid (by
      rw [hW, hxb]
      exact ⟨Blk.new _ _ _ _ rfl, by (have h0 := HR2.out.2; have h1 := h0.size; (repeat (first | exact Below.refl _ _ | assumption | (refine Below.setCell ?_ (by first | (simp; done) | (simp; omega) | omega) _) | (refine Below.drew ?_) | (refine below_drewN ?_ _) | (refine Below.alloc ?_ (by first | (simp; done) | (simp; omega) | omega) _) | (refine Below.trans ?_ (Below.mono (by assumption) (by first | (simp; done) | (simp; omega) | omega)))))), (HR2.out.1.reals.mono (Nat.zero_le _)).past (by (repeat (first | exact Below.refl _ _ | assumption | (refine Below.setCell ?_ (by first | (simp; done) | (simp; omega) | omega) _) | (refine Below.drew ?_) | (refine below_drewN ?_ _) | (refine Below.alloc ?_ (by first | (simp; done) | (simp; omega) | omega) _) | (refine Below.trans ?_ (Below.mono (by assumption) (by first | (simp; done) | (simp; omega) | omega))))))⟩)
    rw [← hxb]
    clear hxb hW HCP HRS hi0 hz0 hz1 hz2 HR2
    have HNW := Lib.hid (HH.out.2.1.past (HV.out.2.trans (HT.out.2.1.mono HV.out.2.size)))
    have HBW := Lib.hid (HV.out.2.trans (HT.out.2.1.mono HV.out.2.size))
    have HSB := Lib.hid (HV.out.1.past HT.out.2.1)
    clear HV
    have m1 := HSB.out.c 1 _ rfl; have m2 := HSB.out.c 2 _ rfl; have ml := HSB.out.lt
    have n0 := HT.out.1.c 0 _ rfl; have n1 := HT.out.1.c 1 _ rfl; have n2 := HT.out.1.c 2 _ rfl; have n3 := HT.out.1.c 3 _ rfl; have nl := HT.out.1.lt
    go_wp2_with fail
    refine wp_loop_rounds 1 ?_
    rw [rounds_succ]
    go_wp2_with fail
    obtain ⟨WT, hWT⟩ : ∃ WT, WT = bs (wordT [] [] rs) := ⟨_, rfl⟩
    have hWS : WT.size ≤ 40 := by
      rw [hWT, Lib.size_eq, bs_data]
      have h1 := numT_len (is := []) (rs := rs) (fun i hi => by simp at hi)
      have h2 := HH.out.2.2.1
      show (numT [] rs).length ≤ 40
      simp only [List.length_nil] at h1
      omega
    have HWD : Hid (∀ w', Below W.heap.size W w' → Calls Tryz.prog 60 #[.agg #[.string ⟨#[102, 105, 108, 108]⟩, .slice none 0 0, .slice none 0 0, .slice ao2 4 cp2]] w' fun e w'' => e = .returned (.string WT) ∧ Below w'.heap.size w' w'') := Lib.hid (fun w' h' => by
      rw [hWT]
      exact words_any _ none none ao2 0 0 0 0 4 cp2 [] [] rs w' (HH.out.1.past (HBW.out.trans (h'.mono HBW.out.size))) rfl rfl HH.out.2.2.1 (by decide) (by decide) (by decide) (.inl rfl) (.inl rfl) (HT.out.2.2.past h') (fun i hi => by simp at hi) (fun i hi => by simp at hi))
    clear hWT
    have q1 : ¬ 9223372036854775807 < 4 + WT.size := by omega
    refine wp_region_loose 5 (fun _ _ u => u = .string WT) (by kernel_rfl) (by kernel_rfl) ?_
    simp only [List.take_succ_cons, List.take_zero, List.drop_succ_cons, List.drop_zero]
    iterate 3 (refine loose_wanted rfl (fun K hK => ?_); go_simp; refine hK _ ?_; clear hK K)
    refine loose_step rfl (fun K hK => ?_)
    go_simp
    refine ⟨fun p => (HWD.out p.w p.h).mono ?_, ?_⟩
    · rintro e w' ⟨rfl, hb⟩
      exact ⟨_, rfl, rfl, p.h.trans (hb.mono p.h.size)⟩
    refine hK _ ?_
    clear hK K
    (refine loose_wanted rfl (fun K hK => ?_); go_simp; refine hK _ ?_; clear hK K)
    refine loose_nil (fun X hX => ?_)
    have HNX := Lib.hid (And.intro (HNW.out.past hX) (And.intro (HT.out.1.past hX) (HBW.out.trans (hX.mono HBW.out.size))))
    have hk := keyS_mk (nm := ⟨#[102, 105, 108, 108]⟩ ++ WT) (by rw [ByteArray.size_append]; have : (⟨#[102, 105, 108, 108]⟩ : ByteArray).size = 4 := rfl; unfold maxLen; omega)
    clear HNW HT HBW HSB HWD hX m1 m2 ml n0 n1 n2 n3 nl
    have k0 := HNX.out.1.k.c 0 _ rfl; have kl := HNX.out.1.k.lt
    have g0 := HNX.out.1.g.c 0 _ rfl; have gl := HNX.out.1.g.lt
    go_upto_region 20 with (first | (at_lookup; refine wpList_look1 _ rfl _ _ 108 rfl 9 3 lawStr Tryz.underlying108 (zeroI _) mk 0 (.map []) rfl HNX.out.1.ok _ _ rfl hk (.int .i64 0) false rfl rfl ?_) | (at_mapUpdate; refine wpList_mapUpdate_own _ rfl _ _ _ 108 rfl 9 3 lawStr Tryz.underlying108 heldV mk 0 (.map []) rfl HNX.out.1.ok (by decide) _ _ _ rfl rfl hk (.held (.int .i64 0)) [] rfl ?_; intro w3 hown3 hgrow3))
    have hT3 : Tch (fun b => b = mk) X w3 := Tch.of_grown hgrow3 (fun b hb => by cases hb; rfl)
    have H3 := Lib.hid (And.intro hT3 (And.intro (HNX.out.1.g.tch hT3 (blk_ne_map HNX.out.1.g HNX.out.1.ok)) (And.intro (HNX.out.2.1.tch hT3 (blk_ne_map HNX.out.2.1 HNX.out.1.ok)) (And.intro (HNX.out.1.m.tch hT3 (blk_ne_map HNX.out.1.m HNX.out.1.ok)) (ownsMap_block HNX.out.1.om (hT3.block mm HNX.out.1.om.lt HNX.out.1.ne))))))
    clear hown3 hgrow3 hT3 k0 kl g0 gl
    have g0 := H3.out.2.1.c 0 _ rfl; have gl := H3.out.2.1.lt
    have n0 := H3.out.2.2.1.c 0 _ rfl; have n1 := H3.out.2.2.1.c 1 _ rfl; have n2 := H3.out.2.2.1.c 2 _ rfl; have n3 := H3.out.2.2.1.c 3 _ rfl; have nl := H3.out.2.2.1.lt
    obtain ⟨i0, hi0, hz0, hz1, hz2⟩ := info_parts infoNode
    go_upto_region 21 with (at_builtin; refine wpList_append_row (v := .slice none 0 0) _ rfl _ _ 41 rfl Tryz.underlying41 hi0 hz0 hz1 hz2 rfl (by decide) rfl (RowV.nil _ 4) ⟨w3.heap.size, 0, none⟩ 1 [.string ⟨#[102, 105, 108, 108]⟩, .slice none 0 0, .slice none 0 0, .slice ao2 4 cp2] rfl rfl (four_new _ _ _ _ _ _) (four_one _ _ _ _ _ _ _ _ _ _) (by decide) (by decide) ?_; intro ao5 cap5 w6 hR6 hG6 ho6; have hB6 : Below w3.heap.size w3 w6 := Below.grown ((Below.refl _ w3).alloc (Nat.le_refl _) _) hG6 (by simp) (fun j hj => by simp [Value.ownBlock] at hj); have H6 := Lib.hid hB6; have hg6 := H3.out.2.1.past hB6; have g6 := hg6.c 0 _ rfl; have gf := hg6.f; have gl6 := hg6.lt; clear hR6 hG6 ho6 hB6 hg6)
    refine wp_world (fun w7 hW7 => ?_)
    have hT7 : Tch (fun b => b = pg) w6 w7 := by rw [hW7]; exact (Tch.refl (fun b => b = pg) w6).set ⟨pg, 0, none⟩ _ rfl
    have H7 := Lib.hid (And.intro hT7 (And.intro (show Blk w7 pg [.slice ao5 (0 + 1) cap5, .int .i64 0] by rw [hW7]; simpa using (H3.out.2.1.past H6.out).set 0 (.slice ao5 (0 + 1) cap5)) (And.intro ((H3.out.2.2.2.1.past H6.out).tch hT7 HH.out.2.1.ne2) (ownsMap_block (ownsMap_block H3.out.2.2.2.2 (H6.out.block mm H3.out.2.2.2.2.lt)) (hT7.block mm (Nat.lt_of_lt_of_le H3.out.2.2.2.2.lt H6.out.size) (fun e => blk_ne_map H3.out.2.1 H3.out.2.2.2.2 e.symm))))))
    clear hW7 hT7 g0 gl n0 n1 n2 n3 nl g6 gf gl6 hk
    have q0 := H7.out.2.2.1.c 0 _ rfl; have ql := H7.out.2.2.1.lt
    go_wp2_with (at_mapUpdate; refine wpList_mapUpdate_own _ rfl _ _ _ 108 rfl 9 3 lawStr Tryz.underlying108 heldV mm 0 (.map []) rfl H7.out.2.2.2 (by decide) _ _ (keyS ⟨#[97]⟩) rfl rfl (keyS_mk (by decide)) (.held (.int .i64 0)) [] rfl ?_; intro w8 hown8 hgrow8)
    go_ret
    have t8 : Tch (fun b => b = mm) w7 w8 := Tch.of_grown hgrow8 (fun b hb => by cases hb; rfl)
    refine ⟨rfl, ⟨ao5, cap5, H7.out.2.1.tch t8 (fun e => blk_ne_map H7.out.2.1 H7.out.2.2.2 e)⟩, ?_, rfl⟩
    exact ((((Tch.of_below HNX.out.2.2).trans (H3.out.1.mono (fun _ _ e => .inr (.inr e)))).trans (Tch.of_below H6.out)).trans (H7.out.1.mono (fun _ _ e => .inl e))).trans (t8.mono (fun _ _ e => .inr (.inl e)))
  · go_simp
    refine hK _ _ (fun _ => HCP.out _ (((Below.refl _ _).drew).alloc (by simp) _)) ?_
    clear hK K hC
    refine wpAnyC_one (i := 7) rfl (by kernel_rfl) (fun K hK => ?_)
    obtain ⟨U, hU⟩ : ∃ U, U = (v1.alloc (.cells #[.string ⟨#[]⟩, .slice none 0 0, .slice none 0 0, .slice none 0 0] 51)).drew := ⟨_, rfl⟩
    have HU : Hid (Blk U v1.heap.size [.string ⟨#[]⟩, .slice none 0 0, .slice none 0 0, .slice none 0 0] ∧ Below v1.heap.size v1 U) := Lib.hid (by rw [hU]; exact ⟨(Blk.new _ _ _ _ rfl).drew, ((Below.refl _ _).alloc (Nat.le_refl _) _).drew⟩)
    rw [← hU]
    clear hU
    refine step_append_new rfl (.const (.slice none 0 0)) (.tmp 51) 49 rfl Tryz.underlying49 hi0 hz0 hz1 hz2 rfl (by decide) rfl ⟨br, ro, none⟩ 4 cr (rs.map (Value.float .f32)) rfl (by rw [List.length_map, HH.out.2.2.1]) (HRS.out _ HU.out.2) (fun u hu => by obtain ⟨v, -, rfl⟩ := List.mem_map.1 hu; rfl) (by decide) (by decide) ?_
    intro v2 w2 hR2 hB2
    have HR2 := Lib.hid (And.intro hR2 (And.intro (HU.out.2.trans (hB2.mono HU.out.2.size)) (HU.out.1.past hB2)))
    have HUL := Lib.hid HU.out.1.lt
    obtain ⟨ao2, cp2, rfl⟩ := hR2.form
    clear hR2 hB2 HU
    refine hK _ _ (fun _ => HCP.out _ HR2.out.2.1) ?_
    clear hK K
    refine wpAnyC_act (by rfl) ?_
    simp only [Act.put, List.setIfInBounds_toArray, List.set_cons_zero, List.set_cons_succ]
    have hC := HCP.out _ HR2.out.2.1
    refine wpAnyC_take (i := 8) (v := .agg #[.string ⟨#[102, 105, 108, 108]⟩, .slice none 0 0, .slice none 0 0, .slice ao2 4 cp2]) rfl (by kernel_rfl) (by kernel_rfl) (fun _ _ _ h => h) (.inl ⟨rfl, fun w' hw' => ?_⟩) hC ?_
    · obtain ⟨k0, k1, k2⟩ := hw'
      go_simp
    refine wpAnyC_act (by rfl) ?_
    simp only [Act.put, List.setIfInBounds_toArray, List.set_cons_zero, List.set_cons_succ]
    have z0 := HR2.out.2.2.c 0 _ rfl; have z1 := HR2.out.2.2.c 1 _ rfl; have z2 := HR2.out.2.2.c 2 _ rfl; have z3 := HR2.out.2.2.c 3 _ rfl; have zl := HR2.out.2.2.lt; have zf := HR2.out.2.2.f
    refine wpAnyC_one (i := 10) rfl (by kernel_rfl) (fun K hK => ?_)
    go_simp
    refine hK _ _ (fun h => by rw [getD_setSelf] at h; cases h) ?_
    clear hK K hC z0 z1 z2 z3 zl zf
    refine wpAnyC_done (by kernel_rfl) ?_
    refine nf_exit (fun W hW => ?_)
    obtain ⟨xb, hxb⟩ : ∃ xb, xb = v1.heap.size := ⟨_, rfl⟩
    have HT : Hid (Blk W xb [.string ⟨#[102, 105, 108, 108]⟩, .slice none 0 0, .slice none 0 0, .slice ao2 4 cp2] ∧ Below v1.heap.size v1 W ∧ RealsAt 0 W ao2 rs) := Lib.hid (by
      rw [hW, hxb]
      exact ⟨by simpa using (((HR2.out.2.2.set 0 (.string ⟨#[102, 105, 108, 108]⟩)).set 1 (.slice none 0 0)).set 2 (.slice none 0 0)).set 3 (.slice ao2 4 cp2), by (have h0 := HR2.out.2.1; (repeat (first | exact Below.refl _ _ | assumption | (refine Below.setCell ?_ (by first | (simp; done) | (simp; omega) | omega) _) | (refine Below.drew ?_) | (refine below_drewN ?_ _) | (refine Below.alloc ?_ (by first | (simp; done) | (simp; omega) | omega) _) | (refine Below.trans ?_ (Below.mono (by assumption) (by first | (simp; done) | (simp; omega) | omega)))))), by (have hq := ((((Tch.refl (fun b => b = v1.heap.size) w2).set ⟨v1.heap.size, 0, none⟩ (.string ⟨#[102, 105, 108, 108]⟩) rfl).set ⟨v1.heap.size, 1, none⟩ (.slice none 0 0) rfl).set ⟨v1.heap.size, 2, none⟩ (.slice none 0 0) rfl).set ⟨v1.heap.size, 3, none⟩ (.slice ao2 4 cp2) rfl; exact (HR2.out.1.reals.tch hq (fun b hb => by subst hb; exact HUL.out)).mono (Nat.zero_le _))⟩)
    rw [← hxb]
    clear hxb hW HCP HRS hi0 hz0 hz1 hz2 HR2
    have HNW := Lib.hid (HH.out.2.1.past (HV.out.2.trans (HT.out.2.1.mono HV.out.2.size)))
    have HBW := Lib.hid (HV.out.2.trans (HT.out.2.1.mono HV.out.2.size))
    have HSB := Lib.hid (HV.out.1.past HT.out.2.1)
    clear HV
    have m1 := HSB.out.c 1 _ rfl; have m2 := HSB.out.c 2 _ rfl; have ml := HSB.out.lt
    have n0 := HT.out.1.c 0 _ rfl; have n1 := HT.out.1.c 1 _ rfl; have n2 := HT.out.1.c 2 _ rfl; have n3 := HT.out.1.c 3 _ rfl; have nl := HT.out.1.lt
    go_wp2_with fail
    refine wp_loop_rounds 1 ?_
    rw [rounds_succ]
    go_wp2_with fail
    obtain ⟨WT, hWT⟩ : ∃ WT, WT = bs (wordT [] [] rs) := ⟨_, rfl⟩
    have hWS : WT.size ≤ 40 := by
      rw [hWT, Lib.size_eq, bs_data]
      have h1 := numT_len (is := []) (rs := rs) (fun i hi => by simp at hi)
      have h2 := HH.out.2.2.1
      show (numT [] rs).length ≤ 40
      simp only [List.length_nil] at h1
      omega
    have HWD : Hid (∀ w', Below W.heap.size W w' → Calls Tryz.prog 60 #[.agg #[.string ⟨#[102, 105, 108, 108]⟩, .slice none 0 0, .slice none 0 0, .slice ao2 4 cp2]] w' fun e w'' => e = .returned (.string WT) ∧ Below w'.heap.size w' w'') := Lib.hid (fun w' h' => by
      rw [hWT]
      exact words_any _ none none ao2 0 0 0 0 4 cp2 [] [] rs w' (HH.out.1.past (HBW.out.trans (h'.mono HBW.out.size))) rfl rfl HH.out.2.2.1 (by decide) (by decide) (by decide) (.inl rfl) (.inl rfl) (HT.out.2.2.past h') (fun i hi => by simp at hi) (fun i hi => by simp at hi))
    clear hWT
    have q1 : ¬ 9223372036854775807 < 4 + WT.size := by omega
    refine wp_region_loose 5 (fun _ _ u => u = .string WT) (by kernel_rfl) (by kernel_rfl) ?_
    simp only [List.take_succ_cons, List.take_zero, List.drop_succ_cons, List.drop_zero]
    iterate 3 (refine loose_wanted rfl (fun K hK => ?_); go_simp; refine hK _ ?_; clear hK K)
    refine loose_step rfl (fun K hK => ?_)
    go_simp
    refine ⟨fun p => (HWD.out p.w p.h).mono ?_, ?_⟩
    · rintro e w' ⟨rfl, hb⟩
      exact ⟨_, rfl, rfl, p.h.trans (hb.mono p.h.size)⟩
    refine hK _ ?_
    clear hK K
    (refine loose_wanted rfl (fun K hK => ?_); go_simp; refine hK _ ?_; clear hK K)
    refine loose_nil (fun X hX => ?_)
    have HNX := Lib.hid (And.intro (HNW.out.past hX) (And.intro (HT.out.1.past hX) (HBW.out.trans (hX.mono HBW.out.size))))
    have hk := keyS_mk (nm := ⟨#[102, 105, 108, 108]⟩ ++ WT) (by rw [ByteArray.size_append]; have : (⟨#[102, 105, 108, 108]⟩ : ByteArray).size = 4 := rfl; unfold maxLen; omega)
    clear HNW HT HBW HSB HWD hX m1 m2 ml n0 n1 n2 n3 nl
    have k0 := HNX.out.1.k.c 0 _ rfl; have kl := HNX.out.1.k.lt
    have g0 := HNX.out.1.g.c 0 _ rfl; have gl := HNX.out.1.g.lt
    go_upto_region 20 with (first | (at_lookup; refine wpList_look1 _ rfl _ _ 108 rfl 9 3 lawStr Tryz.underlying108 (zeroI _) mk 0 (.map []) rfl HNX.out.1.ok _ _ rfl hk (.int .i64 0) false rfl rfl ?_) | (at_mapUpdate; refine wpList_mapUpdate_own _ rfl _ _ _ 108 rfl 9 3 lawStr Tryz.underlying108 heldV mk 0 (.map []) rfl HNX.out.1.ok (by decide) _ _ _ rfl rfl hk (.held (.int .i64 0)) [] rfl ?_; intro w3 hown3 hgrow3))
    have hT3 : Tch (fun b => b = mk) X w3 := Tch.of_grown hgrow3 (fun b hb => by cases hb; rfl)
    have H3 := Lib.hid (And.intro hT3 (And.intro (HNX.out.1.g.tch hT3 (blk_ne_map HNX.out.1.g HNX.out.1.ok)) (And.intro (HNX.out.2.1.tch hT3 (blk_ne_map HNX.out.2.1 HNX.out.1.ok)) (And.intro (HNX.out.1.m.tch hT3 (blk_ne_map HNX.out.1.m HNX.out.1.ok)) (ownsMap_block HNX.out.1.om (hT3.block mm HNX.out.1.om.lt HNX.out.1.ne))))))
    clear hown3 hgrow3 hT3 k0 kl g0 gl
    have g0 := H3.out.2.1.c 0 _ rfl; have gl := H3.out.2.1.lt
    have n0 := H3.out.2.2.1.c 0 _ rfl; have n1 := H3.out.2.2.1.c 1 _ rfl; have n2 := H3.out.2.2.1.c 2 _ rfl; have n3 := H3.out.2.2.1.c 3 _ rfl; have nl := H3.out.2.2.1.lt
    obtain ⟨i0, hi0, hz0, hz1, hz2⟩ := info_parts infoNode
    go_upto_region 21 with (at_builtin; refine wpList_append_row (v := .slice none 0 0) _ rfl _ _ 41 rfl Tryz.underlying41 hi0 hz0 hz1 hz2 rfl (by decide) rfl (RowV.nil _ 4) ⟨w3.heap.size, 0, none⟩ 1 [.string ⟨#[102, 105, 108, 108]⟩, .slice none 0 0, .slice none 0 0, .slice ao2 4 cp2] rfl rfl (four_new _ _ _ _ _ _) (four_one _ _ _ _ _ _ _ _ _ _) (by decide) (by decide) ?_; intro ao5 cap5 w6 hR6 hG6 ho6; have hB6 : Below w3.heap.size w3 w6 := Below.grown ((Below.refl _ w3).alloc (Nat.le_refl _) _) hG6 (by simp) (fun j hj => by simp [Value.ownBlock] at hj); have H6 := Lib.hid hB6; have hg6 := H3.out.2.1.past hB6; have g6 := hg6.c 0 _ rfl; have gf := hg6.f; have gl6 := hg6.lt; clear hR6 hG6 ho6 hB6 hg6)
    refine wp_world (fun w7 hW7 => ?_)
    have hT7 : Tch (fun b => b = pg) w6 w7 := by rw [hW7]; exact (Tch.refl (fun b => b = pg) w6).set ⟨pg, 0, none⟩ _ rfl
    have H7 := Lib.hid (And.intro hT7 (And.intro (show Blk w7 pg [.slice ao5 (0 + 1) cap5, .int .i64 0] by rw [hW7]; simpa using (H3.out.2.1.past H6.out).set 0 (.slice ao5 (0 + 1) cap5)) (And.intro ((H3.out.2.2.2.1.past H6.out).tch hT7 HH.out.2.1.ne2) (ownsMap_block (ownsMap_block H3.out.2.2.2.2 (H6.out.block mm H3.out.2.2.2.2.lt)) (hT7.block mm (Nat.lt_of_lt_of_le H3.out.2.2.2.2.lt H6.out.size) (fun e => blk_ne_map H3.out.2.1 H3.out.2.2.2.2 e.symm))))))
    clear hW7 hT7 g0 gl n0 n1 n2 n3 nl g6 gf gl6 hk
    have q0 := H7.out.2.2.1.c 0 _ rfl; have ql := H7.out.2.2.1.lt
    go_wp2_with (at_mapUpdate; refine wpList_mapUpdate_own _ rfl _ _ _ 108 rfl 9 3 lawStr Tryz.underlying108 heldV mm 0 (.map []) rfl H7.out.2.2.2 (by decide) _ _ (keyS ⟨#[97]⟩) rfl rfl (keyS_mk (by decide)) (.held (.int .i64 0)) [] rfl ?_; intro w8 hown8 hgrow8)
    go_ret
    have t8 : Tch (fun b => b = mm) w7 w8 := Tch.of_grown hgrow8 (fun b hb => by cases hb; rfl)
    refine ⟨rfl, ⟨ao5, cap5, H7.out.2.1.tch t8 (fun e => blk_ne_map H7.out.2.1 H7.out.2.2.2 e)⟩, ?_, rfl⟩
    exact ((((Tch.of_below HNX.out.2.2).trans (H3.out.1.mono (fun _ _ e => .inr (.inr e)))).trans (Tch.of_below H6.out)).trans (H7.out.1.mono (fun _ _ e => .inl e))).trans (t8.mono (fun _ _ e => .inr (.inl e)))
end Go.Proofs.YtjcakbikpficbaaGreatDoor

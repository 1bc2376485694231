/- What a cache keeps, in plain words: names and frames, the oldest first. Conditions: what each theorem names. -/
import Derived.Test.YtcdcfkgdgimmcaaDoorKpA
import Derived.Maps.StringElems
namespace Go.Proofs.YtcdcfkgdgimmcaaDoor
open Go Go.RowKit
/-- A frame that is kept, under its name. -/
structure Kp where
  nm : ByteArray
  x : Int
  y : Int
  v : Int
  h : Int
  n : Nat
  fs : Nat → Nat
def Kp.pix (k : Kp) : Int := k.v * k.h
def Kp.ok (k : Kp) : Prop := fraErr k.x k.y k.v k.h k.n = 0 ∧ k.nm.size ≤ maxLen
theorem Kp.ok_bd {k : Kp} (h : k.ok) : 1 ≤ k.pix ∧ k.pix ≤ 16384 ∧ (k.n : Int) = 4 * k.pix ∧ 1 ≤ k.v ∧ k.v ≤ 256 ∧ 1 ≤ k.h ∧ k.h ≤ 256 := by
  obtain ⟨he, hl⟩ := fraErr_ok h.1
  obtain ⟨r1, r2, r3, r4, r5, r6, -⟩ := regErr_ok he
  rw [Int.mul_assoc] at hl
  exact ⟨by unfold Kp.pix; omega, by unfold Kp.pix; omega, by unfold Kp.pix; exact hl, r1, r2, r3, r4⟩
/-- How many pixels all have. -/
def pixL : List Kp → Int
  | [] => 0
  | k :: l => k.pix + pixL l
theorem pixL_app (a b : List Kp) : pixL (a ++ b) = pixL a + pixL b := by
  induction a with
  | nil => simp [pixL]
  | cons k l ih => simp only [List.cons_append, pixL, ih]; omega
theorem pixL_erase {L : List Kp} {i : Nat} {k : Kp} (h : L[i]? = some k) : pixL (L.eraseIdx i) = pixL L - k.pix := by
  induction L generalizing i with
  | nil => simp at h
  | cons a l ih =>
    cases i with
    | zero => simp at h; subst h; simp [pixL]; omega
    | succ i => simp at h; simp only [List.eraseIdx_cons_succ, pixL, ih h]; omega
theorem pixL_bd {L : List Kp} (h : ∀ k ∈ L, k.ok) : 0 ≤ pixL L ∧ pixL L ≤ 16384 * L.length := by
  induction L with
  | nil => simp [pixL]
  | cons a l ih =>
    have h1 := Kp.ok_bd (h a (by simp))
    have h2 := ih (fun k hk => h k (by simp [hk]))
    simp only [pixL, List.length_cons]
    omega
/-- Where a name stands; its length: nowhere. -/
def posK (nm : ByteArray) : List Kp → Nat
  | [] => 0
  | k :: l => if k.nm = nm then 0 else posK nm l + 1
theorem posK_le (nm : ByteArray) (L : List Kp) : posK nm L ≤ L.length := by
  induction L with
  | nil => simp [posK]
  | cons a l ih => unfold posK; split <;> simp; omega
theorem posK_hit {nm : ByteArray} {L : List Kp} (h : posK nm L < L.length) : ∃ k, L[posK nm L]? = some k ∧ k.nm = nm := by
  induction L with
  | nil => simp at h
  | cons a l ih =>
    unfold posK at h ⊢
    split
    · rename_i e; exact ⟨a, by simp, e⟩
    · rename_i e
      rw [if_neg e] at h
      simp at h
      obtain ⟨k, h1, h2⟩ := ih h
      exact ⟨k, by simpa using h1, h2⟩
theorem posK_before {nm : ByteArray} {L : List Kp} {i : Nat} {k : Kp} (h : i < posK nm L) (hk : L[i]? = some k) : k.nm ≠ nm := by
  induction L generalizing i with
  | nil => simp at hk
  | cons a l ih =>
    unfold posK at h
    split at h
    · omega
    · rename_i e
      cases i with
      | zero => simp at hk; subst hk; exact e
      | succ i => simp at hk; exact ih (by omega) hk
theorem posK_at {nm : ByteArray} {L : List Kp} {i : Nat} {k : Kp} (hk : L[i]? = some k) (he : k.nm = nm) (hb : ∀ j k', j < i → L[j]? = some k' → k'.nm ≠ nm) : posK nm L = i := by
  rcases Nat.lt_trichotomy (posK nm L) i with h | h | h
  · have hl := (List.getElem?_eq_some_iff.1 hk).1
    obtain ⟨k', h1, h2⟩ := posK_hit (nm := nm) (L := L) (by omega)
    exact absurd h2 (hb _ _ h h1)
  · exact h
  · exact absurd he (posK_before h hk)
theorem posK_none {nm : ByteArray} {L : List Kp} (h : posK nm L = L.length) : ∀ k ∈ L, k.nm ≠ nm := by
  intro k hk
  obtain ⟨i, hi⟩ := List.mem_iff_getElem?.1 hk
  have := (List.getElem?_eq_some_iff.1 hi).1
  exact posK_before (by omega) hi
/-- One name is left out. -/
def dropK (nm : ByteArray) (L : List Kp) : List Kp := if posK nm L < L.length then L.eraseIdx (posK nm L) else L
/-- The oldest ones are left out till all fit. -/
def fitK (most : Int) : List Kp → List Kp
  | [] => []
  | k :: l => if most < pixL (k :: l) then fitK most l else k :: l
def getK (nm : ByteArray) (L : List Kp) : List Kp := match L[posK nm L]? with
  | some k => L.eraseIdx (posK nm L) ++ [k]
  | none => L
def OkK (L : List Kp) : Prop := (∀ k ∈ L, k.ok) ∧ L.Pairwise (fun a b => a.nm ≠ b.nm)
theorem OkK.nil : OkK [] := ⟨by simp, List.Pairwise.nil⟩
theorem OkK.sub {L L' : List Kp} (h : OkK L) (s : L'.Sublist L) : OkK L' := ⟨fun k hk => h.1 k (s.subset hk), h.2.sublist s⟩
theorem OkK.erase {L : List Kp} (h : OkK L) (i : Nat) : OkK (L.eraseIdx i) := h.sub (List.eraseIdx_sublist _ _)
theorem OkK.drop {L : List Kp} (h : OkK L) (nm : ByteArray) : OkK (dropK nm L) := by
  unfold dropK; split
  · exact h.erase _
  · exact h
theorem OkK.tail {k : Kp} {L : List Kp} (h : OkK (k :: L)) : OkK L := h.sub (List.sublist_cons_self _ _)
/-- Behind the leaving out no one bears the name. -/
theorem dropK_none {L : List Kp} (h : OkK L) (nm : ByteArray) : ∀ k ∈ dropK nm L, k.nm ≠ nm := by
  intro k hk
  unfold dropK at hk
  split at hk
  · rename_i hl
    obtain ⟨k0, h1, h2⟩ := posK_hit hl
    obtain ⟨j, hj⟩ := List.mem_iff_getElem?.1 hk
    rw [List.getElem?_eraseIdx] at hj
    intro e
    have hp := h.2
    rw [List.pairwise_iff_getElem] at hp
    split at hj
    · rename_i hlt
      exact posK_before hlt hj e
    · rename_i hlt
      obtain ⟨l1, e1⟩ := List.getElem?_eq_some_iff.1 hj
      obtain ⟨l2, e2⟩ := List.getElem?_eq_some_iff.1 h1
      have := hp (posK nm L) (j + 1) l2 l1 (by omega)
      rw [e1, e2] at this
      exact this (by rw [h2, e])
  · rename_i hl
    exact posK_none (by have := posK_le nm L; omega) k hk
theorem OkK.app {L : List Kp} {k : Kp} (h : OkK L) (hk : k.ok) (hn : ∀ a ∈ L, a.nm ≠ k.nm) : OkK (L ++ [k]) :=
  ⟨fun a ha => by rcases List.mem_append.1 ha with h' | h'; exact h.1 a h'; simp at h'; subst h'; exact hk,
   List.pairwise_append.2 ⟨h.2, List.pairwise_singleton _ _, fun a ha b hb => by simp at hb; subst hb; exact hn a ha⟩⟩
theorem fitK_sub (most : Int) : ∀ L, (fitK most L).Sublist L
  | [] => List.Sublist.refl _
  | k :: l => by
    unfold fitK; split
    · exact (fitK_sub most l).trans (List.sublist_cons_self _ _)
    · exact List.Sublist.refl _
theorem fitK_step {most : Int} {k : Kp} {l : List Kp} (h : most < pixL (k :: l)) : fitK most (k :: l) = fitK most l := by rw [fitK, if_pos h]
theorem fitK_end {most : Int} {L : List Kp} (h : ¬ most < pixL L) : fitK most L = L := by
  cases L with
  | nil => rfl
  | cons k l => rw [fitK, if_neg h]
theorem fitK_le {most : Int} (hm : 0 ≤ most) : ∀ L, pixL (fitK most L) ≤ most
  | [] => by simpa [fitK, pixL] using hm
  | k :: l => by
    unfold fitK; split
    · exact fitK_le hm l
    · omega
theorem OkK.get {L : List Kp} (h : OkK L) (nm : ByteArray) : OkK (getK nm L) := by
  unfold getK
  split
  · rename_i k hk
    have hl := (List.getElem?_eq_some_iff.1 hk).1
    obtain ⟨k0, h1, h2⟩ := posK_hit hl
    rw [hk] at h1; cases h1
    have e : L.eraseIdx (posK nm L) = dropK nm L := by unfold dropK; rw [if_pos hl]
    rw [e]
    exact (h.drop nm).app (h.1 k (List.mem_of_getElem? hk)) (fun a ha => by rw [h2]; exact dropK_none h nm a ha)
  · exact h
theorem pixL_get {L : List Kp} (nm : ByteArray) : pixL (getK nm L) = pixL L := by
  unfold getK
  split
  · rename_i k hk
    rw [pixL_app, pixL_erase hk]
    simp [pixL]
  · rfl
theorem dropK_len (nm : ByteArray) (L : List Kp) : (dropK nm L).length ≤ L.length := by
  unfold dropK; split
  · rw [List.length_eraseIdx]; split <;> omega
  · exact Nat.le_refl _
theorem getK_len (nm : ByteArray) (L : List Kp) : (getK nm L).length = L.length := by
  unfold getK
  split
  · rename_i k hk
    have hl := (List.getElem?_eq_some_iff.1 hk).1
    rw [List.length_append, List.length_eraseIdx, if_pos hl]; simp; omega
  · rfl
/-! ### in memory -/
def nmC (k : Kp) : List Value := [.string k.nm]
theorem nmC_len (k : Kp) : (nmC k).length = 1 := rfl
/-- How a frame in the map reads: as it stands. -/
def heldR (v : Value) : Option (DataW Value × List MemPlace) := some (.held v, [])
def kpV (k : Kp) (g : Nat) : Value := .agg #[.int .i64 k.x, .int .i64 k.y, .int .i64 k.v, .int .i64 k.h, .slice (some ⟨g, 0, none⟩) k.n k.n]
def kyL (nm : ByteArray) : Lit := .string nm.data.toList
/-- The map holds each frame under its name, and no other one; the frames' singles lie on blocks of which G is true. -/
def MapK (w : World) (G : Nat → Prop) (D : DataW Value) (L : List Kp) : Prop :=
  (∀ nm, posK nm L = L.length → Maps.has D (kyL nm) = false) ∧
  ∀ k ∈ L, Maps.has D (kyL k.nm) = true ∧ ∃ g, G g ∧ g < w.heap.size ∧ (∀ z, D.atKey (kyL k.nm) z = .held (kpV k g)) ∧ Row w g 0 k.n k.fs
theorem kyL_ne {a b : ByteArray} (h : a ≠ b) : kyL a ≠ kyL b := fun e => by
  injection e with e
  apply h
  cases a; cases b
  simp at e
  rw [e]
theorem MapK.nil (w : World) (G : Nat → Prop) : MapK w G (.map []) [] := ⟨fun _ _ => rfl, by simp⟩
theorem MapK.tch {S : Nat → Prop} {w w' : World} {G G' : Nat → Prop} {D : DataW Value} {L : List Kp} (h : MapK w G D L) (t : Tch S w w') (hg : ∀ g, g < w.heap.size → G g → ¬ S g ∧ G' g) : MapK w' G' D L :=
  ⟨h.1, fun k hk => by
    obtain ⟨h1, g, h2, h3, h4, h5⟩ := h.2 k hk
    obtain ⟨a1, a2⟩ := hg g h3 h2
    exact ⟨h1, g, a2, Nat.lt_of_lt_of_le h3 t.size, h4, fun i hi => (World.cell?_of_block (a := ⟨g, 0 + i, none⟩) (t.block g h3 a1)).trans (h5 i hi)⟩⟩
theorem posK_len_iff {nm : ByteArray} {L : List Kp} : posK nm L = L.length ↔ ∀ k ∈ L, k.nm ≠ nm := by
  refine ⟨posK_none, fun h => ?_⟩
  have := posK_le nm L
  rcases Nat.lt_or_ge (posK nm L) L.length with hl | hl
  · obtain ⟨k, h1, h2⟩ := posK_hit hl
    exact absurd h2 (h k (List.mem_of_getElem? h1))
  · omega
/-- One is left out of the map. -/
theorem MapK.del {w : World} {G : Nat → Prop} {D : DataW Value} {L : List Kp} (h : MapK w G D L) (ho : OkK L) (nm : ByteArray) : MapK w G (D.del (kyL nm)) (dropK nm L) := by
  have hn := dropK_none ho nm
  refine ⟨fun nm' h' => ?_, fun k hk => ?_⟩
  · by_cases e : nm' = nm
    · subst e; exact Maps.has_del_same
    · rw [Maps.has_del_other (kyL_ne e)]
      refine h.1 nm' (posK_len_iff.2 fun k hk ek => ?_)
      refine posK_len_iff.1 h' k ?_ ek
      unfold dropK
      split
      · rename_i hl
        obtain ⟨k0, h1, h2⟩ := posK_hit hl
        obtain ⟨j, hj⟩ := List.mem_iff_getElem?.1 hk
        rcases Nat.lt_trichotomy j (posK nm L) with hlt | heq | hgt
        · exact List.mem_of_getElem? (i := j) (by rw [List.getElem?_eraseIdx, if_pos hlt]; exact hj)
        · subst heq; rw [h1] at hj; cases hj; exact absurd (ek.symm.trans h2) e
        · exact List.mem_of_getElem? (i := j - 1) (by rw [List.getElem?_eraseIdx, if_neg (by omega), show j - 1 + 1 = j by omega]; exact hj)
      · exact hk
  · have hL : k ∈ L := by
      unfold dropK at hk; split at hk
      · exact List.mem_of_mem_eraseIdx hk
      · exact hk
    obtain ⟨h1, g, h2, h3, h4, h5⟩ := h.2 k hL
    have e := hn k hk
    exact ⟨by rw [Maps.has_del_other (kyL_ne e)]; exact h1, g, h2, h3, fun z => by rw [Maps.atKey_del_other (kyL_ne e)]; exact h4 z, h5⟩
/-- One is put in that was not there. -/
theorem MapK.put {w : World} {G : Nat → Prop} {D : DataW Value} {L : List Kp} (h : MapK w G D L) (hD : Maps.IsMap D) (k : Kp) (g : Nat) (hg : G g) (hgl : g < w.heap.size) (hr : Row w g 0 k.n k.fs) (hn : ∀ a ∈ L, a.nm ≠ k.nm) (hk : WideAt.IsKeyLit (kyL k.nm)) :
    MapK w G (D.put (kyL k.nm) (.held (kpV k g))) (L ++ [k]) := by
  refine ⟨fun nm' h' => ?_, fun a ha => ?_⟩
  · have h2 := posK_len_iff.1 h'
    have e : nm' ≠ k.nm := fun e => h2 k (by simp) e.symm
    rw [Maps.has_put_other (kyL_ne e)]
    exact h.1 nm' (posK_len_iff.2 fun a ha => h2 a (by simp [ha]))
  · rcases List.mem_append.1 ha with ha | ha
    · obtain ⟨h1, g', h2, h3, h4, h5⟩ := h.2 a ha
      have e := hn a ha
      exact ⟨by rw [Maps.has_put_other (kyL_ne e)]; exact h1, g', h2, h3, fun z => by rw [Maps.atKey_put_other (kyL_ne e)]; exact h4 z, h5⟩
    · simp at ha; subst ha
      exact ⟨Maps.has_put_same hD hk _, g, hg, hgl, fun z => Maps.atKey_put_same hD hk _ z, hr⟩
theorem MapK.get {w : World} {G : Nat → Prop} {D : DataW Value} {L : List Kp} (h : MapK w G D L) (nm : ByteArray) : MapK w G D (getK nm L) := by
  unfold getK
  split
  · rename_i k hk
    have hm : ∀ a, a ∈ L.eraseIdx (posK nm L) ++ [k] ↔ a ∈ L := fun a => by
      have hl := (List.getElem?_eq_some_iff.1 hk).1
      constructor
      · intro ha
        rcases List.mem_append.1 ha with ha | ha
        · exact List.mem_of_mem_eraseIdx ha
        · simp at ha; subst ha; exact List.mem_of_getElem? hk
      · intro ha
        obtain ⟨j, hj⟩ := List.mem_iff_getElem?.1 ha
        rcases Nat.lt_trichotomy j (posK nm L) with hlt | heq | hgt
        · exact List.mem_append_left _ (List.mem_of_getElem? (i := j) (by rw [List.getElem?_eraseIdx, if_pos hlt]; exact hj))
        · subst heq; rw [hk] at hj; cases hj; simp
        · exact List.mem_append_left _ (List.mem_of_getElem? (i := j - 1) (by rw [List.getElem?_eraseIdx, if_neg (by omega), show j - 1 + 1 = j by omega]; exact hj))
    exact ⟨fun nm' h' => h.1 nm' (posK_len_iff.2 fun a ha => posK_len_iff.1 h' a ((hm a).2 ha)), fun a ha => h.2 a ((hm a).1 ha)⟩
  · exact h
/-- The cache in memory: its block, the order of its keys, its map. T: a block on which nothing of it lies. -/
structure CacheG (w : World) (P : Program) (kt : TypeId) (c mb : Nat) (ks : Value) (most hi mi : Int) (N : Nat) (L : List Kp) (T : Option Nat) : Prop where
  b : Blk w c [.int .i64 most, .int .i64 (pixL L), ks, .map (some mb), .int .i64 hi, .int .i64 mi]
  k : RowV w 1 ks L.length (L.flatMap nmC)
  m : ∃ D, w.ownsMap P kt heldR mb N D ∧ MapK w (fun g => g ≠ c ∧ g ≠ mb ∧ ks.ownBlock ≠ some g ∧ T ≠ some g) D L
  ne : c ≠ mb
  nk : ∀ b, ks.ownBlock = some b → b ≠ c ∧ b ≠ mb
  t : T ≠ some c ∧ T ≠ some mb ∧ ∀ b, ks.ownBlock = some b → T ≠ some b
  ok : OkK L
/-- The blocks that the cache's calls write. -/
def Sp (c mb : Nat) (ks : Value) (b : Nat) : Prop := b = c ∨ b = mb ∨ ks.ownBlock = some b
theorem CacheG.tch {S : Nat → Prop} {w w' : World} {P : Program} {kt : TypeId} {c mb : Nat} {ks : Value} {most hi mi : Int} {N : Nat} {L : List Kp} {T : Option Nat} (h : CacheG w P kt c mb ks most hi mi N L T) (t : Tch S w w') (hs : ∀ b, S b → T = some b) : CacheG w' P kt c mb ks most hi mi N L T := by
  obtain ⟨D, hD, hM⟩ := h.m
  refine ⟨h.b.tch t (fun hS => h.t.1 (hs _ hS)), h.k.tch t (fun b hb hS => h.t.2.2 b hb (hs _ hS)), ⟨D, ?_, hM.tch t (fun g _ hg => ⟨fun hS => hg.2.2.2 (hs _ hS), hg⟩)⟩, h.ne, h.nk, h.t, h.ok⟩
  obtain ⟨es, clock, hb, r⟩ := hD
  exact ⟨es, clock, by rw [t.block mb (World.ownsMap.lt ⟨es, clock, hb, r⟩) (fun hS => h.t.2.1 (hs _ hS))]; exact hb, r⟩
theorem CacheG.past {w w' : World} {P : Program} {kt : TypeId} {c mb : Nat} {ks : Value} {most hi mi : Int} {N : Nat} {L : List Kp} {T : Option Nat} (h : CacheG w P kt c mb ks most hi mi N L T) (t : Below w.heap.size w w') : CacheG w' P kt c mb ks most hi mi N L T :=
  h.tch (S := fun _ => False) (Tch.of_below t) (fun _ hb => hb.elim)
/-- Nothing of it lies on a block that was not there. -/
theorem CacheG.away {w : World} {P : Program} {kt : TypeId} {c mb : Nat} {ks : Value} {most hi mi : Int} {N : Nat} {L : List Kp} {T : Option Nat} (h : CacheG w P kt c mb ks most hi mi N L T) {g : Nat} (hg : w.heap.size ≤ g) : CacheG w P kt c mb ks most hi mi N L (some g) := by
  obtain ⟨D, hD, hM⟩ := h.m
  have hc := h.b.lt
  have hm := hD.lt
  refine ⟨h.b, h.k, ⟨D, hD, hM.1, fun k hk => ?_⟩, h.ne, h.nk, ⟨fun e => by cases e; omega, fun e => by cases e; omega, fun b hb e => by cases e; have := h.k.lt hb; omega⟩, h.ok⟩
  obtain ⟨h1, g', h2, h3, h4⟩ := hM.2 k hk
  exact ⟨h1, g', ⟨h2.1, h2.2.1, h2.2.2.1, fun e => by cases e; omega⟩, h3, h4⟩
end Go.Proofs.YtcdcfkgdgimmcaaDoor

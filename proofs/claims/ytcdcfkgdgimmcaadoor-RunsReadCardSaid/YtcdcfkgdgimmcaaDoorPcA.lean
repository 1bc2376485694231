/- finish.Picture: the text of a picture, and the errors. Conditions: the library's variables read as listed (LibW). -/
import Derived.Test.YtcdcfkgdgimmcaaDoorBys
import Derived.Test.YtcdcfkgdgimmcaaDoorLvF
import Derived.Test.YtcdcfkgdgimmcaaDoorLvD
import Derived.Test.YtcdcfkgdgimmcaaDoorNtE
import Derived.Test.YtcdcfkgdgimmcaaDoorNtD
import Derived.Lib.ItoaLen
namespace Go.Proofs.YtcdcfkgdgimmcaaDoor
open Go Go.RowKit
set_option maxRecDepth 100000 in
/-- AT THE OPERATION: '[]byte(s)'. -/
theorem wpList_bytesB {ops : Array Oper} {rest : List Oper} {dst : Option Tmp} {ty : TypeId} {pos : String} {after : Array Edge} {a : Act} {w : World} {Q : Exit → Act → World → Prop} {x : Operand} {s : ByteArray} (hx : a.eval x = .string s) (hs : s.size ≤ 1000000000)
    (h : ∀ v w', ownB w' w.heap.size v s.data.toList → Below w.heap.size w w' → wpList Tryd.prog ops Q rest (a.put dst v) w') :
    wpList Tryd.prog ops Q ({ dst, op := .convert 9 81 x, type := ty, pos, after, guard := none } :: rest) a w := by
  refine wpList_plain rfl fun K hK => ?_
  obtain ⟨v, w', hr, h1, h2⟩ := run_bytesB w s hs
  unfold Oper.wp execOp
  simp only [hx, Sem.run_bind, Sem.run_pure, Result.andThen_ok, hr]
  exact hK _ _ (h v w' h1 h2)
/-- The text that strconv.Itoa hands back. -/
def itoaB : Array Value → ByteArray
  | #[.int _ v] => ⟨(Lib.itoa v).toArray⟩
  | _ => ⟨#[]⟩
theorem itoaB_eq (v : Int) : itoaB #[.int .i64 v] = ⟨(Lib.itoa v).toArray⟩ := rfl
theorem itoaB_size (v : Int) (h0 : -9223372036854775808 ≤ v) (h1 : v ≤ 9223372036854775807) : (itoaB #[.int .i64 v]).size ≤ 21 := by
  rw [itoaB_eq, Lib.size_eq]
  exact Lib.itoa_length_le v h0 h1
theorem headX (W H : Int) : (({ data := #[80, 54, 10] } : ByteArray) ++ itoaB #[.int .i64 W] ++ { data := #[32] } ++ itoaB #[.int .i64 H] ++ { data := #[10, 50, 53, 53, 10] }).data.toList = headT W H := by
  rw [itoaB_eq, itoaB_eq]
  simp [headT, p6, m255, ByteArray.data_append]
theorem sizeX (a b : ByteArray) (ha : a.size ≤ 21) (hb : b.size ≤ 21) : (({ data := #[80, 54, 10] } : ByteArray) ++ a ++ { data := #[32] } ++ b ++ { data := #[10, 50, 53, 53, 10] }).size ≤ 1000000000 := by
  have e1 : ({ data := #[80, 54, 10] } : ByteArray).size = 3 := rfl
  have e2 : ({ data := #[32] } : ByteArray).size = 1 := rfl
  have e3 : ({ data := #[10, 50, 53, 53, 10] } : ByteArray).size = 5 := rfl
  simp only [ByteArray.size_append, e1, e2, e3]
  omega
/-- The row of bytes so far. -/
structure PcR (w2 wr : World) (u : Value) (l : List UInt8) : Prop where
  own : ownB wr w2.heap.size u l
  bel : Below w2.heap.size w2 wr
theorem PcR.past {w2 wr wy : World} {u : Value} {l : List UInt8} (k : PcR w2 wr u l) (h : Below wr.heap.size wr wy) : PcR w2 wy u l := ⟨ownB_past k.own h, k.bel.trans (h.mono k.bel.size)⟩
theorem PcR.app {w2 wr wa w1 : World} {u u' : Value} {l m : List UInt8} (k0 : PcR w2 wr u l) (hb : Below wr.heap.size wr wa) (hown : ownB w1 w2.heap.size u' m) (hg : wa.grownBy w1 u.ownBlock) : PcR w2 w1 u' m := by
  have k := k0.past hb
  refine ⟨hown, k.bel.grown hg k.bel.size (fun j hj => ?_)⟩
  obtain ⟨g, cap, rfl, hbg, -, -⟩ := ownB_lt k.own
  simp [Value.ownBlock] at hj
  omega
/-- The text of a picture. -/
def picT (W H : Int) (f : Nat → Int) (n : Nat) : List UInt8 := headT W H ++ picBy (fun i => by8 (f i)) n
set_option maxRecDepth 100000 in
set_option maxHeartbeats 12800000 in
theorem Picture_yes (x y h how s : Int) (V b off n cap : Nat) (fs : Nat → Nat) (w : World) (hL : LibW w) (he : fraErr x y (V : Int) h n = 0) (hh : 0 ≤ how ∧ how ≤ 2) (hc : Row w b off n fs) :
    Calls Tryd.prog 36 #[.agg #[.int .i64 x, .int .i64 y, .int .i64 V, .int .i64 h, .slice (some ⟨b, off, none⟩) n cap], .int .i64 how, .int .u32 s] w fun e w' =>
      e = .returned (.tuple #[.string ⟨(picT V h (lvZ how s x y V fs 8) n).toArray⟩, .int .i64 0]) ∧ Below w.heap.size w w' := by
  obtain ⟨hr, hl⟩ := fraErr_ok he
  obtain ⟨r1, r2, r3, r4, r5, r6, r7, r8, r9, r10⟩ := regErr_ok hr
  have hn1 : n ≤ 65536 := by rw [Int.mul_assoc] at hl; omega
  have hn0 : 0 < n := by rw [Int.mul_assoc] at hl; omega
  obtain ⟨F, hF⟩ : ∃ F, F = lvZ how s x y V fs 8 := ⟨_, rfl⟩
  have HZ : Hid (∀ k, 0 ≤ F k ∧ F k ≤ 255) := Lib.hid (fun k => by rw [hF]; exact lvZ_in how s x y V fs (by omega) k)
  have HV : Hid (∀ w', Below w.heap.size w w' → Calls Tryd.prog 68 #[.agg #[.int .i64 x, .int .i64 y, .int .i64 V, .int .i64 h, .slice (some ⟨b, off, none⟩) n cap], .int .i64 how, .int .u32 s, .int .i64 8] w' fun e w'' =>
      ∃ g, e = .returned (.tuple #[.slice (some ⟨g, 0, none⟩) n n, .int .i64 0]) ∧ w'.heap.size ≤ g ∧ (∀ i, i < n → w''.cell? ⟨g, i, none⟩ = some (.int .i64 (F i))) ∧ Below w'.heap.size w' w'') := Lib.hid (fun w' hb => by
    rw [hF]; exact Levels_yes x y h how s 8 V b off n cap fs w' he hh (by omega) (hc.past hb))
  rw [← hF]
  have HL := Lib.hid hL
  clear hF hc hL he hr hl
  go_enter Tryd.func36, Tryd.ntmps36
  go_upto_region 4 with (go_at_call 68; refine (HV.out _ (by (repeat (first | exact Below.refl _ _ | assumption | (refine Below.setCell ?_ (by first | (simp; done) | (simp; omega) | omega) _) | (refine Below.drew ?_) | (refine below_drewN ?_ _) | (refine Below.alloc ?_ (by first | (simp; done) | (simp; omega) | omega) _) | (refine Below.trans ?_ (Below.mono (by assumption) (by first | (simp; done) | (simp; omega) | omega))))))).mono ?_; rintro e v1 ⟨g, rfl, hg1, hcl, hb1⟩)
  have H1 : Hid (Blk v1 w.heap.size [.int .i64 x, .int .i64 y, .int .i64 V, .int .i64 h, .slice (some ⟨b, off, none⟩) n cap] ∧ Below w.heap.size w v1 ∧ LibW v1 ∧ ∀ i, i < n → v1.cell? ⟨g, i, none⟩ = some (.int .i64 (F i))) := Lib.hid (by
    have hbb : Below w.heap.size w v1 := Below.trans (by (repeat (first | exact Below.refl _ _ | assumption | (refine Below.setCell ?_ (by first | (simp; done) | (simp; omega) | omega) _) | (refine Below.drew ?_) | (refine below_drewN ?_ _) | (refine Below.alloc ?_ (by first | (simp; done) | (simp; omega) | omega) _) | (refine Below.trans ?_ (Below.mono (by assumption) (by first | (simp; done) | (simp; omega) | omega)))))) (hb1.mono (by simp))
    exact ⟨(Blk.new _ _ _ _ rfl).past hb1, hbb, HL.out.past hbb, hcl⟩)
  have hgl : g < v1.heap.size := cell_lt (hcl 0 hn0)
  clear hb1 hcl HL HV hg1
  have q2 := H1.out.1.c 2 _ rfl; have q3 := H1.out.1.c 3 _ rfl
  have ql := H1.out.1.lt
  have s1 := itoaB_size V (by omega) (by omega)
  have s2 := itoaB_size h (by omega) (by omega)
  have c1 : ¬ 9223372036854775807 < 3 + (itoaB #[.int .i64 (V : Int)]).size := by omega
  have c2 : ¬ 9223372036854775807 < 3 + (itoaB #[.int .i64 (V : Int)]).size + 1 := by omega
  have c3 : ¬ 9223372036854775807 < 3 + (itoaB #[.int .i64 (V : Int)]).size + 1 + (itoaB #[.int .i64 h]).size := by omega
  have c4 : ¬ 9223372036854775807 < 3 + (itoaB #[.int .i64 (V : Int)]).size + 1 + (itoaB #[.int .i64 h]).size + 5 := by omega
  refine wp_region_loose 12 (fun f args u => f = 35 ∧ u = .string (itoaB args)) (by kernel_rfl) (by kernel_rfl) ?_
  simp only [List.take_succ_cons, List.take_zero, List.drop_succ_cons, List.drop_zero]
  repeat (refine loose_wanted rfl (fun K hK => ?_); go_simp; refine hK _ ?_; clear hK K)
  refine loose_step rfl (fun K hK => ?_)
  go_simp
  refine ⟨fun p => (Itoa_any _ _ (H1.out.2.2.1.past p.h) (by omega) (by omega)).mono ?_, ?_⟩
  · rintro e w' ⟨rfl, hb⟩
    exact ⟨_, rfl, rfl, p.h.trans (hb.mono p.h.size)⟩
  refine hK _ ?_
  clear hK K
  repeat (refine loose_wanted rfl (fun K hK => ?_); go_simp; refine hK _ ?_; clear hK K)
  refine loose_step rfl (fun K hK => ?_)
  go_simp
  refine ⟨fun p => (Itoa_any _ _ (H1.out.2.2.1.past p.h) (by omega) (by omega)).mono ?_, ?_⟩
  · rintro e w' ⟨rfl, hb⟩
    exact ⟨_, rfl, rfl, p.h.trans (hb.mono p.h.size)⟩
  refine hK _ ?_
  clear hK K
  repeat (refine loose_wanted rfl (fun K hK => ?_); go_simp; refine hK _ ?_; clear hK K)
  refine loose_nil (fun w2 hb2 => ?_)
  refine wpList_bytesB rfl (sizeX _ _ s1 s2) ?_
  intro u0 w3 hown hb3
  rw [headX] at hown
  have HB2 : Hid (Below w.heap.size w w2 ∧ ∀ i, i < n → w2.cell? ⟨g, i, none⟩ = some (.int .i64 (F i))) := Lib.hid ⟨H1.out.2.1.trans (hb2.mono H1.out.2.1.size), fun i hi => by rw [hb2.cell (p := ⟨g, i, none⟩) hgl]; exact H1.out.2.2.2 i hi⟩
  have hgl2 : g < w2.heap.size := by have := hb2.size; omega
  have HM0 : Hid (PcR w2 w3 u0 (headT V h)) := Lib.hid ⟨hown, hb3⟩
  have HHL := Lib.hid (headT_len (W := (V : Int)) (H := h) ⟨r1, r2⟩ ⟨r3, r4⟩)
  clear hown hb3 hb2 c1 c2 c3 c4 s1 s2 q2 q3 ql H1
  go_wp2_with fail
  go_loopw [38, 10] (fun s38 s10 wr => ∃ k : Nat, k ≤ n ∧ s38 = .int .i64 k ∧ ∃ u, u = s10 ∧ PcR w2 wr u (headT V h ++ picBy (fun i => by8 (F i)) k)) (fun s38 _ _ => n - (intOf s38).toNat)
  case atStart => exact ⟨0, Nat.zero_le _, rfl, _, rfl, by rw [show picBy (fun i => by8 (F i)) 0 = [] from rfl, List.append_nil]; exact HM0.out⟩
  case round =>
    obtain ⟨k, hk, rfl, u, rfl, hM⟩ := hrel
    have HM := Lib.hid hM
    clear hM HM0
    by_cases hlN : k < n
    · have hlN' : (k : Int) < (n : Int) := by omega
      obtain ⟨z, hz⟩ : ∃ z, z = F k := ⟨_, rfl⟩
      have hzc : wr.cell? ⟨g, k, none⟩ = some (.int .i64 z) := by rw [HM.out.bel.cell (p := ⟨g, k, none⟩) hgl2, hz]; exact HB2.out.2 k hlN
      have hgw : g < wr.heap.size := by have := HM.out.bel.size; omega
      obtain ⟨z0, z1⟩ : 0 ≤ z ∧ z ≤ 255 := by rw [hz]; exact HZ.out k
      have HZK := Lib.hid hz
      obtain ⟨m, hm⟩ : ∃ m, m = k % 4 := ⟨_, rfl⟩
      have hkm : (k : Int) % 4 = (m : Int) := by omega
      have HKM := Lib.hid hm
      clear hz hm
      by_cases hm3 : m < 3
      · have hm3' : (m : Int) < 3 := by omega
        have hz8 : IntKind.u8.wrap z = ((by8 z).toNat : Int) := by8_wrap z
        have hpl : (headT V h ++ picBy (fun i => by8 (F i)) k).length + 1 ≤ 1000000000 := by
          rw [List.length_append, picBy_len]; have := HHL.out; omega
        have hbs : w2.heap.size ≤ wr.heap.size := HM.out.bel.size
        obtain ⟨B, hB⟩ : ∃ B, B = by8 z := ⟨_, rfl⟩
        rw [← hB] at hz8
        have HBY := Lib.hid hB
        clear hB
        go_wp2_with (first | (at_builtin; refine wpList_appB w2.heap.size u _ B ⟨wr.heap.size, 0, none⟩ 1 (ownB_past HM.out.own ((Below.refl _ _).alloc (Nat.le_refl _) _)) (by simp) hpl (by simp; omega) rfl _ _ rfl rfl rfl ?_; intro v' w7 hown hgrow hat))
        clear hat
        have HN := Lib.hid (PcR.app HM.out ((Below.refl _ _).alloc (Nat.le_refl _) _) hown hgrow)
        go_roundw
        case rel => exact ⟨k + 1, by omega, by go_num, _, rfl, by unfold picBy; rw [← HKM.out, if_pos hm3, ← List.append_assoc, ← HZK.out, ← HBY.out]; exact HN.out⟩
        case measure => simp [intOf]; omega
      · have hm3' : ¬ (m : Int) < 3 := by omega
        go_wp2_with fail
        go_roundw
        case rel => exact ⟨k + 1, by omega, by go_num, _, rfl, by unfold picBy; rw [← HKM.out, if_neg hm3]; exact HM.out⟩
        case measure => simp [intOf]; omega
    · obtain rfl : k = n := by omega
      have hstr := run_stringB HM.out.own
      go_wp2_with fail
      go_ret2
      exact ⟨rfl, HB2.out.1.trans (HM.out.bel.mono HB2.out.1.size)⟩
set_option maxRecDepth 100000 in
set_option maxHeartbeats 6400000 in
theorem Picture_no (x y h how s v : Int) (a : Option Addr) (n cap : Nat) (w : World) (hE : levE how 8 (fraErr x y v h n) ≠ 0) :
    Calls Tryd.prog 36 #[.agg #[.int .i64 x, .int .i64 y, .int .i64 v, .int .i64 h, .slice a n cap], .int .i64 how, .int .u32 s] w fun e w' =>
      e = .returned (.tuple #[.string ⟨#[]⟩, .int .i64 (levE how 8 (fraErr x y v h n))]) ∧ Below w.heap.size w w' := by
  have HV : Hid (∀ w', Calls Tryd.prog 68 #[.agg #[.int .i64 x, .int .i64 y, .int .i64 v, .int .i64 h, .slice a n cap], .int .i64 how, .int .u32 s, .int .i64 8] w' fun e w'' =>
      e = .returned (.tuple #[.slice none 0 0, .int .i64 (levE how 8 (fraErr x y v h n))]) ∧ Below w'.heap.size w' w'') := Lib.hid (fun w' => Levels_no x y v h how s 8 a n cap w' hE)
  generalize levE how 8 (fraErr x y v h n) = E at *
  have hE2 : (E != 0) = true := by simpa using hE
  clear hE
  go_enter Tryd.func36, Tryd.ntmps36
  go_wp2_with (go_at_call 68; refine (HV.out _).mono ?_; rintro e v1 ⟨rfl, hb1⟩)
  go_ret2
  exact ⟨rfl, Below.trans (by clear hb1; (repeat (first | exact Below.refl _ _ | assumption | (refine Below.setCell ?_ (by first | (simp; done) | (simp; omega) | omega) _) | (refine Below.drew ?_) | (refine below_drewN ?_ _) | (refine Below.alloc ?_ (by first | (simp; done) | (simp; omega) | omega) _) | (refine Below.trans ?_ (Below.mono (by assumption) (by first | (simp; done) | (simp; omega) | omega)))))) (hb1.mono (by simp))⟩
end Go.Proofs.YtcdcfkgdgimmcaaDoor

/- RunsRead: the walk of the statement. Conditions: the library's variables read as listed (LibW). -/
import Derived.Test.YtcdcfkgdgimmcaaDoorRnE
import Derived.Test.YtcdcfkgdgimmcaaDoorFaF
namespace Go.Proofs.YtcdcfkgdgimmcaaDoor
open Go Go.RowKit
theorem countOne (s : ByteArray) (w : World) : Calls Tryd.prog 43 #[.string s, .string ⟨#[10]⟩] w fun e w' => e = .returned (.int .i64 ((s.data.toList.count 10 : Nat) : Int)) ∧ w = w' := by
  refine (Any.strings_Count_one Tryd.lays138 s 10 w).mono ?_
  rintro e w' ⟨rfl, rfl⟩
  exact ⟨rfl, rfl⟩
/-- What Parse hands back of whatever text. -/
theorem Parse_some (s : ByteArray) (w : World) (hL : LibW w) : Calls Tryd.prog 40 #[.string s] w fun e w' => (∃ (a : Option Addr) (n c : Nat) (x y : Int), e = .returned (.tuple #[.slice a n c, .int .i64 x, .int .i64 y])) ∧ Below w.heap.size w w' := by
  by_cases hs : 1048576 < s.size
  · exact (Parse_long s w hs).mono fun e w' ⟨h, hb⟩ => ⟨⟨_, _, _, _, _, h⟩, hb⟩
  · refine (Parse_any s w hL (by omega)).mono ?_
    rintro e w' ⟨hb, ⟨rs, t, -, -, -, h⟩ | ⟨rs, -, -, h⟩ | ⟨rs, a, c, -, -, h, -⟩⟩
    · exact ⟨⟨_, _, _, _, _, h⟩, hb⟩
    · exact ⟨⟨_, _, _, _, _, h⟩, hb⟩
    · exact ⟨⟨_, _, _, _, _, h⟩, hb⟩
set_option maxRecDepth 100000 in
set_option maxHeartbeats 6400000 in
theorem rr_big (s : ByteArray) (w : World) (hL : LibW w) (hs : 5000 < s.size) : Calls Tryd.prog 6 #[.string s] w fun e w' => e = .returned (.bool true) ∧ Below w.heap.size w w' := by
  have hs' : (5000 : Int) < (s.size : Int) := by omega
  have HR := Lib.hid (Parse_some s w hL)
  clear hL
  go_enter Tryd.func6, Tryd.ntmps6
  go_upto_region 2 with (go_at_call 40; refine HR.out.mono ?_; rintro e v1 ⟨⟨a, n, c, x, y, rfl⟩, hb1⟩)
  go_upto_region 3 with (go_at_call 9; refine (farms_any _).mono ?_; rintro e v2 ⟨rfl, hb2⟩)
  go_wp2_with (go_at_call 9; refine (farms_any _).mono ?_; rintro e v3 ⟨rfl, hb3⟩)
  go_ret
  exact ⟨rfl, hb1.trans (Below.mono (hb2.trans (hb3.mono hb2.size)) hb1.size)⟩
set_option maxRecDepth 100000 in
set_option maxHeartbeats 12800000 in
theorem rr_small (s : ByteArray) (w : World) (hL : LibW w) (hs : s.size ≤ 5000) : Calls Tryd.prog 6 #[.string s] w fun e w' => e = .returned (.bool true) ∧ Below w.heap.size w w' := by
  have hs' : ¬ (5000 : Int) < (s.size : Int) := by omega
  have HR := Lib.hid (Parse_any s w hL (by omega))
  have HL := Lib.hid hL
  have HSL : Hid (s.data.toList.length ≤ 5000) := Lib.hid (by rw [← Lib.size_eq]; exact hs)
  clear hL hs
  go_enter Tryd.func6, Tryd.ntmps6
  go_upto_region 2 with (go_at_call 40; refine HR.out.mono ?_; rintro e v1 ⟨hb1, ⟨rs, t, h1, -, -, rfl⟩ | ⟨rs, h1, h2, rfl⟩ | ⟨rs, a, c, h1, h2, rfl, h3⟩⟩)
  · have HB1 := Lib.hid hb1
    have hin : inB rs.length 0 ((s.data.toList.count 10 : Nat) : Int) = true := inB_t ⟨by omega, by
      rw [h1, List.count_append, runs_count]; omega⟩
    obtain ⟨cn, hcn⟩ : ∃ cn : Nat, cn = s.data.toList.count 10 := ⟨_, rfl⟩
    rw [← hcn] at hin
    have HCN : Hid (∀ w, Calls Tryd.prog 43 #[.string s, .string ⟨#[10]⟩] w fun e w' => e = .returned (.int .i64 (cn : Int)) ∧ w = w') := Lib.hid (fun w => by rw [hcn]; exact countOne s w)
    clear hb1 h1 HR hcn
    go_upto_region 4 with (go_at_call 9; refine (farms_any _).mono ?_; rintro e v2 ⟨rfl, hb2⟩)
    have HB2 := Lib.hid (HB1.out.trans (hb2.mono HB1.out.size))
    clear hb2 HB1
    go_wp2_with (first | (go_at_call 43; refine (HCN.out _).mono ?_; rintro e w' ⟨rfl, rfl⟩) | (go_at_call 8; refine (In_any _ _ _ _).mono ?_; rintro e w' ⟨rfl, rfl⟩))
    go_ret
    exact ⟨rfl, HB2.out⟩
  · have HB1 := Lib.hid hb1
    have hv : runsE rs = 3 ∨ runsE rs = 8 := by
      have := runs_len rs
      have := HSL.out
      rw [h1] at this
      unfold runsE at h2 ⊢
      rw [if_neg (by omega)] at h2 ⊢
      rcases rsE_vals rs with h | h | h
      · exact absurd h h2
      · exact .inl h
      · exact .inr h
    obtain ⟨E, hE⟩ : ∃ E, E = runsE rs := ⟨_, rfl⟩
    rw [← hE] at hv ⊢
    clear hb1 h1 h2 hE HR
    go_upto_region 4 with (go_at_call 9; refine (farms_any _).mono ?_; rintro e v2 ⟨rfl, hb2⟩)
    have HB2 := Lib.hid (HB1.out.trans (hb2.mono HB1.out.size))
    clear hb2 HB1
    rcases hv with rfl | rfl
    · go_wp2_with fail
      go_ret
      exact ⟨rfl, HB2.out⟩
    · go_wp2_with fail
      go_ret
      exact ⟨rfl, HB2.out⟩
  · have HB1 := Lib.hid hb1
    have hl : rs.length ≤ 5000 := by
      have := runs_len rs
      have := HSL.out
      rw [h1] at this
      omega
    have hz : rsE rs = 0 := by
      unfold runsE at h2
      rw [if_neg (by omega)] at h2; exact h2
    have HE : Hid (∀ w', Below v1.heap.size v1 w' → Calls Tryd.prog 41 #[.slice a rs.length c] w' fun e w'' => e = .returned (.int .i64 0) ∧ Below w'.heap.size w' w'') := Lib.hid (fun w' hb => by rw [← h2]; exact runsError_any a c rs w' (by omega) (h3.past hb))
    have HT : Hid (∀ w', Below v1.heap.size v1 w' → Calls Tryd.prog 42 #[.slice a rs.length c] w' fun e w'' => e = .returned (.string s) ∧ Below w'.heap.size w' w'') := Lib.hid (fun w' hb => by
      rw [mk_of h1]
      exact runsText_any a c rs w' (HL.out.past (HB1.out.trans (hb.mono HB1.out.size))) (by omega) hz (h3.past hb))
    clear hb1 h1 h2 h3 hz HR
    go_upto_region 4 with (go_at_call 9; refine (farms_any _).mono ?_; rintro e v2 ⟨rfl, hb2⟩)
    have HB2 := Lib.hid hb2
    clear hb2
    go_wp2_with (first | (go_at_call 41; refine (HE.out _ HB2.out).mono ?_; rintro e v3 ⟨rfl, hb3⟩; have HB3 := Lib.hid (HB2.out.trans (hb3.mono HB2.out.size)); clear hb3) | (go_at_call 42; refine (HT.out _ HB3.out).mono ?_; rintro e v4 ⟨rfl, hb4⟩))
    go_ret
    exact ⟨rfl, HB1.out.trans (Below.mono (HB3.out.trans (hb4.mono HB3.out.size)) HB1.out.size)⟩
/-- THE WALK OF THE STATEMENT. -/
theorem rr_walk (s : ByteArray) (w : World) (hL : LibW w) : Calls Tryd.prog 6 #[.string s] w fun e w' => e = .returned (.bool true) ∧ Below w.heap.size w w' := by
  by_cases hs : 5000 < s.size
  · exact rr_big s w hL hs
  · exact rr_small s w hL (by omega)
end Go.Proofs.YtcdcfkgdgimmcaaDoor

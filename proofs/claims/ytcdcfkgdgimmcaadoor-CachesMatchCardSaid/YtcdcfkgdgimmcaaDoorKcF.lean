/- CachesMatch: the frame of dyelaw2.CachesMatch, its lasting slots told. No condition. -/
import Derived.Test.YtcdcfkgdgimmcaaDoorLawKc
import Derived.Deep.CutBlock
namespace Go.Proofs.YtcdcfkgdgimmcaaDoor
open Go Go.RowKit
theorem exp252 (l : List Value) (h : l.length = 252) : ∃ (us : Nat → Value) (x0 x1 x2 x3 x9 x11 x12 x13 x71 x72 x73 : Value), l = [x0, x1, x2, x3, us 4, us 5, us 6, us 7, us 8, x9, us 10, x11, x12, x13, us 14, us 15, us 16, us 17, us 18, us 19, us 20, us 21, us 22, us 23, us 24, us 25, us 26, us 27, us 28, us 29, us 30, us 31, us 32, us 33, us 34, us 35, us 36, us 37, us 38, us 39, us 40, us 41, us 42, us 43, us 44, us 45, us 46, us 47, us 48, us 49, us 50, us 51, us 52, us 53, us 54, us 55, us 56, us 57, us 58, us 59, us 60, us 61, us 62, us 63, us 64, us 65, us 66, us 67, us 68, us 69, us 70, x71, x72, x73, us 74, us 75, us 76, us 77, us 78, us 79, us 80, us 81, us 82, us 83, us 84, us 85, us 86, us 87, us 88, us 89, us 90, us 91, us 92, us 93, us 94, us 95, us 96, us 97, us 98, us 99, us 100, us 101, us 102, us 103, us 104, us 105, us 106, us 107, us 108, us 109, us 110, us 111, us 112, us 113, us 114, us 115, us 116, us 117, us 118, us 119, us 120, us 121, us 122, us 123, us 124, us 125, us 126, us 127, us 128, us 129, us 130, us 131, us 132, us 133, us 134, us 135, us 136, us 137, us 138, us 139, us 140, us 141, us 142, us 143, us 144, us 145, us 146, us 147, us 148, us 149, us 150, us 151, us 152, us 153, us 154, us 155, us 156, us 157, us 158, us 159, us 160, us 161, us 162, us 163, us 164, us 165, us 166, us 167, us 168, us 169, us 170, us 171, us 172, us 173, us 174, us 175, us 176, us 177, us 178, us 179, us 180, us 181, us 182, us 183, us 184, us 185, us 186, us 187, us 188, us 189, us 190, us 191, us 192, us 193, us 194, us 195, us 196, us 197, us 198, us 199, us 200, us 201, us 202, us 203, us 204, us 205, us 206, us 207, us 208, us 209, us 210, us 211, us 212, us 213, us 214, us 215, us 216, us 217, us 218, us 219, us 220, us 221, us 222, us 223, us 224, us 225, us 226, us 227, us 228, us 229, us 230, us 231, us 232, us 233, us 234, us 235, us 236, us 237, us 238, us 239, us 240, us 241, us 242, us 243, us 244, us 245, us 246, us 247, us 248, us 249, us 250, us 251] := by
  have e : l = (List.range 252).map (fun i => l.getD i (.bool false)) := by
    refine List.ext_getElem (by simp [h]) (fun i h1 h2 => ?_)
    simp [List.getD, h1]
  exact ⟨fun i => l.getD i (.bool false), l.getD 0 (.bool false), l.getD 1 (.bool false), l.getD 2 (.bool false), l.getD 3 (.bool false), l.getD 9 (.bool false), l.getD 11 (.bool false), l.getD 12 (.bool false), l.getD 13 (.bool false), l.getD 71 (.bool false), l.getD 72 (.bool false), l.getD 73 (.bool false), e.trans (by kernel_rfl)⟩
structure AtC (most : Int) (ca : Option Addr) (ncl cc : Nat) (na : Option Addr) (nn nc : Nat) (fa : Option Addr) (fn fc c k : Nat) (s11 s12 s13 : Value) (l : List Value) : Prop where
  n : l.length = 252
  s0 : l[0]? = some (.int .i64 most)
  s1 : l[1]? = some (.slice ca ncl cc)
  s2 : l[2]? = some (.slice na nn nc)
  s3 : l[3]? = some (.slice fa fn fc)
  s9 : l[9]? = some (.pointer (some ⟨c, 0, none⟩))
  s11 : l[11]? = some (s11)
  s12 : l[12]? = some (s12)
  s13 : l[13]? = some (s13)
  s71 : l[71]? = some (.slice ca ncl cc)
  s72 : l[72]? = some (.int .i64 ncl)
  s73 : l[73]? = some (.int .i64 k)
theorem AtC.out {most : Int} {ca : Option Addr} {ncl cc : Nat} {na : Option Addr} {nn nc : Nat} {fa : Option Addr} {fn fc c k : Nat} {s11 s12 s13 : Value} {l : List Value} (h : AtC most ca ncl cc na nn nc fa fn fc c k s11 s12 s13 l) : ∃ us : Nat → Value, l = [.int .i64 most, .slice ca ncl cc, .slice na nn nc, .slice fa fn fc, us 4, us 5, us 6, us 7, us 8, .pointer (some ⟨c, 0, none⟩), us 10, s11, s12, s13, us 14, us 15, us 16, us 17, us 18, us 19, us 20, us 21, us 22, us 23, us 24, us 25, us 26, us 27, us 28, us 29, us 30, us 31, us 32, us 33, us 34, us 35, us 36, us 37, us 38, us 39, us 40, us 41, us 42, us 43, us 44, us 45, us 46, us 47, us 48, us 49, us 50, us 51, us 52, us 53, us 54, us 55, us 56, us 57, us 58, us 59, us 60, us 61, us 62, us 63, us 64, us 65, us 66, us 67, us 68, us 69, us 70, .slice ca ncl cc, .int .i64 ncl, .int .i64 k, us 74, us 75, us 76, us 77, us 78, us 79, us 80, us 81, us 82, us 83, us 84, us 85, us 86, us 87, us 88, us 89, us 90, us 91, us 92, us 93, us 94, us 95, us 96, us 97, us 98, us 99, us 100, us 101, us 102, us 103, us 104, us 105, us 106, us 107, us 108, us 109, us 110, us 111, us 112, us 113, us 114, us 115, us 116, us 117, us 118, us 119, us 120, us 121, us 122, us 123, us 124, us 125, us 126, us 127, us 128, us 129, us 130, us 131, us 132, us 133, us 134, us 135, us 136, us 137, us 138, us 139, us 140, us 141, us 142, us 143, us 144, us 145, us 146, us 147, us 148, us 149, us 150, us 151, us 152, us 153, us 154, us 155, us 156, us 157, us 158, us 159, us 160, us 161, us 162, us 163, us 164, us 165, us 166, us 167, us 168, us 169, us 170, us 171, us 172, us 173, us 174, us 175, us 176, us 177, us 178, us 179, us 180, us 181, us 182, us 183, us 184, us 185, us 186, us 187, us 188, us 189, us 190, us 191, us 192, us 193, us 194, us 195, us 196, us 197, us 198, us 199, us 200, us 201, us 202, us 203, us 204, us 205, us 206, us 207, us 208, us 209, us 210, us 211, us 212, us 213, us 214, us 215, us 216, us 217, us 218, us 219, us 220, us 221, us 222, us 223, us 224, us 225, us 226, us 227, us 228, us 229, us 230, us 231, us 232, us 233, us 234, us 235, us 236, us 237, us 238, us 239, us 240, us 241, us 242, us 243, us 244, us 245, us 246, us 247, us 248, us 249, us 250, us 251] := by
  obtain ⟨us, x0, x1, x2, x3, x9, x11, x12, x13, x71, x72, x73, rfl⟩ := exp252 l h.n
  have h0 := Option.some.inj h.s0
  have h1 := Option.some.inj h.s1
  have h2 := Option.some.inj h.s2
  have h3 := Option.some.inj h.s3
  have h9 := Option.some.inj h.s9
  have h11 := Option.some.inj h.s11
  have h12 := Option.some.inj h.s12
  have h13 := Option.some.inj h.s13
  have h71 := Option.some.inj h.s71
  have h72 := Option.some.inj h.s72
  have h73 := Option.some.inj h.s73
  subst h0 h1 h2 h3 h9 h11 h12 h13 h71 h72 h73
  exact ⟨us, rfl⟩
/-- Block n of a code. -/
def codeBlk (n : Nat) : Code → Option Code
  | .block m c => if m = n then some (.block m c) else codeBlk n c
  | .seq a b => match codeBlk n a with
    | some c => some c
    | none => codeBlk n b
  | .cond _ a b => match codeBlk n a with
    | some c => some c
    | none => codeBlk n b
  | .loop c => codeBlk n c
  | .scope c => codeBlk n c
  | _ => none
def blkOf (f : Func) (n : Nat) : Code := (codeBlk n (f.body.getD .skip)).getD .skip
end Go.Proofs.YtcdcfkgdgimmcaaDoor

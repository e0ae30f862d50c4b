/- The reference of chapter 21: ReadFlag, Flag, May. -/
import Derived.Test.YtbacnaplpfmpnaaDoorSnK
import Derived.Test.YtbacnaplpfmpnaaDoorSnH
namespace Go.Proofs.YtbacnaplpfmpnaaDoor
open Go.RowKit
theorem i64_ok (x : Int) (h : -9223372036854775808 ≤ x) (h2 : x ≤ 9223372036854775807) : IntKind.i64.wrap x = x := by rw [IntKind.wrap_i64]; omega
theorem bitN_range (b : Bool) (n : Int) (h : 0 ≤ n) : 0 ≤ bitN b n ∧ bitN b n ≤ n := by cases b <;> simp [bitN, h]
end Go.Proofs.YtbacnaplpfmpnaaDoor

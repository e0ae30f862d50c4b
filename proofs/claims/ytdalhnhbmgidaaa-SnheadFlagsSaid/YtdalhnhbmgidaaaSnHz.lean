/- SnheadFlags: all cases. -/
import Derived.Test.YtdalhnhbmgidaaaSnHt
import Derived.Test.YtdalhnhbmgidaaaSnHa
import Derived.Test.YtdalhnhbmgidaaaSnHb
import Derived.Test.YtdalhnhbmgidaaaSnHc
namespace Go.Proofs.Ytdalhnhbmgidaaa
open Go.RowKit

theorem snheadFlags_walk (dup : Bool) (q : Int) (retain will clean : Bool) (t n k : Int) (w : World) :
    Calls Try.prog 5 #[.agg #[.bool dup, .int .i64 q, .bool retain, .bool will, .bool clean, .int .i64 t], .int .i64 n, .int .i64 k] w fun e w' => e = .returned (.bool true) ∧ Below w.heap.size w w' := by
  cases h : flagOk q t with
  | false =>
    rcases rf_cases n with ⟨h1, h2, h3, h4⟩ | ⟨h1, h2⟩ | ⟨h1, h2, h3⟩ | ⟨h1, h2, h3, h4⟩
    · exact snf_no_t ⟨dup, q, retain, will, clean, t⟩ n k h h1 h2 h3 h4 w
    · exact snf_no_a ⟨dup, q, retain, will, clean, t⟩ n k h h1 h2 w
    · exact snf_no_b ⟨dup, q, retain, will, clean, t⟩ n k h h1 h2 h3 w
    · exact snf_no_c ⟨dup, q, retain, will, clean, t⟩ n k h h1 h2 h3 h4 w
  | true =>
    cases hm : mayF k ⟨dup, q, retain, will, clean, t⟩ with
    | false =>
      rcases rf_cases n with ⟨h1, h2, h3, h4⟩ | ⟨h1, h2⟩ | ⟨h1, h2, h3⟩ | ⟨h1, h2, h3, h4⟩
      · exact snf_mid_t ⟨dup, q, retain, will, clean, t⟩ n k h hm h1 h2 h3 h4 w
      · exact snf_mid_a ⟨dup, q, retain, will, clean, t⟩ n k h hm h1 h2 w
      · exact snf_mid_b ⟨dup, q, retain, will, clean, t⟩ n k h hm h1 h2 h3 w
      · exact snf_mid_c ⟨dup, q, retain, will, clean, t⟩ n k h hm h1 h2 h3 h4 w
    | true =>
      rcases rf_cases n with ⟨h1, h2, h3, h4⟩ | ⟨h1, h2⟩ | ⟨h1, h2, h3⟩ | ⟨h1, h2, h3, h4⟩
      · exact snf_yes_t ⟨dup, q, retain, will, clean, t⟩ n k hm _ rfl (uses_cls k) h1 h2 h3 h4 w
      · exact snf_yes_a ⟨dup, q, retain, will, clean, t⟩ n k hm _ rfl (uses_cls k) h1 h2 w
      · exact snf_yes_b ⟨dup, q, retain, will, clean, t⟩ n k hm _ rfl (uses_cls k) h1 h2 h3 w
      · exact snf_yes_c ⟨dup, q, retain, will, clean, t⟩ n k hm _ rfl (uses_cls k) h1 h2 h3 h4 w
end Go.Proofs.Ytdalhnhbmgidaaa

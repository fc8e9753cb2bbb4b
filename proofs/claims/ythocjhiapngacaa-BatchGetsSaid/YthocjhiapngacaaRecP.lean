/-
  Walks: may a record be, the document's: the kinds joined.
-/
import Derived.Test.YthocjhiapngacaaRecO
import Derived.Test.YthocjhiapngacaaRecL
import Derived.Test.YthocjhiapngacaaRecN
set_option linter.all false
namespace Go.Proofs.Ythocjhiapngacaa
open Go.RowKit

theorem ref_May (r : Rcd) (w : World) (hr : r.ok) (hv : r.val.size ≤ 9223372036854775807) :
    Calls Try.prog 10 #[.agg (recL r).toArray] w fun e w' => e = .returned (.bool (recGood r)) ∧ Nul w w' := by
  obtain ⟨kd, k, d, v, s, n⟩ := r
  obtain ⟨hk, hs⟩ := hr
  by_cases h1 : kd = 1
  · subst h1; exact ref_May_1 k d v s n w hk hs hv
  by_cases h2 : kd = 2
  · subst h2; exact ref_May_2 k d v s n w hk hs hv
  by_cases h3 : kd = 3
  · subst h3; exact ref_May_3 k d v s n w hk hs hv
  by_cases h4 : kd = 4
  · subst h4; exact ref_May_4 k d v s n w hk hs hv
  by_cases h5 : kd = 5
  · subst h5; exact ref_May_5 k d v s n w hk hs hv
  exact ref_May_no k d v s n kd w hk hs hv h1 h2 h3 h4 h5
end Go.Proofs.Ythocjhiapngacaa

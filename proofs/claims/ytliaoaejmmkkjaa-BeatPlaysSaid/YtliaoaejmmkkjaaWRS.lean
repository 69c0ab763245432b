/- Timers in order; a timer set. -/
import Derived.Test.YtliaoaejmmkkjaaWH9

namespace Go.Proofs.Ytliaoaejmmkkjaa
open Go.RowKit
theorem dropT_len (a : Int) (s : List Tm) : (dropT a s).length ≤ s.length := List.length_filter_le _ _
theorem leTm_anti {x y : Tm} (h : leTm x y) (k : leTm y x) : x = y := by
  rw [leTm_iff] at *
  have h1 : x.1 = y.1 := by omega
  have h2 : x.2 = y.2 := by omega
  exact Prod.ext h1 h2
theorem sorted_permTm {l l' : List Tm} (p : l.Perm l') (h : l.Pairwise leTm) (h' : l'.Pairwise leTm) : l = l' :=
  List.Perm.eq_of_pairwise (fun _ _ _ _ a b => leTm_anti a b) h h' p
theorem set_in (t : TypeId) (rest : List Value) {T : List Tm} {id v : Int} (h : rightB v 0 1099511627776 = true) : Ct Try.prog 11 (some (WheelR t rest T)) [.v (i64 id), .v (i64 v)]
    (fun rs R' => rs = [.v (.bool true)] ∧ R' = some (WheelR t rest (setT id v T))) := by
  have := set_ct t rest T id v
  rw [h] at this; simpa using this
end Go.Proofs.Ytliaoaejmmkkjaa

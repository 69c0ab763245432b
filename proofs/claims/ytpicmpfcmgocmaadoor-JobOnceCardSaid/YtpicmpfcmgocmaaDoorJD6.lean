/- Which jobs may be, what is submitted, and what any step with any job comes to: at every job, step and place; the names of the places read as they are laid. -/
import Derived.Test.YtpicmpfcmgocmaaDoorJD5a
import Derived.Test.YtpicmpfcmgocmaaDoorJD5b
import Derived.Test.YtpicmpfcmgocmaaDoorJD5c
import Derived.Test.YtpicmpfcmgocmaaDoorJD5d
import Derived.Test.YtpicmpfcmgocmaaDoorJD5l
import Derived.Test.YtpicmpfcmgocmaaDoorJD5h

namespace Go.Proofs.YtpicmpfcmgocmaaDoor
open Go.RowKit
theorem jobSteps_v (t : TypeId) (fz : Nat × Nat) (id pr sq ph nd n0 n1 n2 kd an k : Int) : PureV Tryd.prog (.cells ⟨namesL⟩ t fz) 3 [jobV id pr sq ph nd n0 n1 n2, .agg #[i64 kd, i64 an], i64 k] (fun v => v = .bool true) := by
  have h1 := do_v t fz id pr sq ph nd n0 n1 n2 kd an
  have h2 := refDo_v t fz id pr sq ph nd n0 n1 n2 kd an
  have h3 := new_v t fz id pr sq n0 n1 n2
  have h4 := refNew_v t fz id pr sq n0 n1 n2
  have h5 := jobRight_v t fz id pr sq ph nd n0 n1 n2
  have h6 := refJobRight_v t fz id pr sq ph nd n0 n1 n2
  have hk : k = 1 ∨ k = 2 ∨ k = 3 ∨ k = 4 ∨ k < 1 ∨ 4 < k := by omega
  rcases hk with rfl | rfl | rfl | rfl | hk | hk
  · have h7 := name_v t fz 1
    rw [show nameB 1 = true by decide] at h7
    exact steps_1 h1 h2 h3 h4 h5 h6 h7 rfl
  · have h7 := name_v t fz 2
    rw [show nameB 2 = true by decide] at h7
    exact steps_2 h1 h2 h3 h4 h5 h6 h7 rfl
  · have h7 := name_v t fz 3
    rw [show nameB 3 = true by decide] at h7
    exact steps_3 h1 h2 h3 h4 h5 h6 h7 rfl
  · have h7 := name_v t fz 4
    rw [show nameB 4 = true by decide] at h7
    exact steps_4 h1 h2 h3 h4 h5 h6 h7 rfl
  · exact steps_lo hk h1 h2 h3 h4 h5 h6 (name_no (by omega)) rfl
  · exact steps_hi hk h1 h2 h3 h4 h5 h6 (name_no (by omega)) rfl
end Go.Proofs.YtpicmpfcmgocmaaDoor

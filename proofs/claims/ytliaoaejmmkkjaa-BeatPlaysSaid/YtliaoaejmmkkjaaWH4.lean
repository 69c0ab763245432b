/- Contracts of functions of the program and of the reference: what each call comes to. -/
import Derived.Test.YtliaoaejmmkkjaaWH3
namespace Go.Proofs.Ytliaoaejmmkkjaa
open Go.RowKit
theorem CallG.spec {P : Program} {ng k : Nat} {args : List Value} {h : List (Nat × GO)} {ns : List Nat} {K : Value → List (Nat × GO) → List Nat → Prop} (c : CallG P ng k args h ns K) : Spec P ng k args h ns K := by
  cases c with | mk _ s => exact s
set_option maxRecDepth 100000 in
theorem drop_ct (t : TypeId) (rest : List Value) (T : List (Int × Int)) (id : Int) : Ct Try.prog 13 (some (WheelR t rest T)) [.v (i64 id)] (fun rs R' => rs = [.v (.bool (lookT id T).isSome)] ∧ R' = some (WheelR t rest (dropT id T))) := by
  refine Ct.of_spec ?_
  intro w q F hrec
  obtain ⟨h1, h2, h3⟩ := hrec
  obtain ⟨f, o, Ms, ck, hI, hO, hu⟩ := unp_wheel (R := WheelR t rest T) h1 h2 h3
  refine ⟨f, _, hu, ?_⟩
  refine CallG.spec (drop_open (lo := 0) id hI hO ?_)
  intro Ms' hI' hO'
  exact Fin.mk [.v (.bool (lookT id T).isSome)] (some (WheelR t rest (dropT id T))) [.bool (lookT id T).isSome] nmsW rfl (.plain (.cons (.v rfl) .nil)) (pkW hO' hI') ⟨rfl, rfl⟩
def setT (id v : Int) (T : List (Int × Int)) : List (Int × Int) := dropT id T ++ [(id, v)]
theorem updNew {M : MapW} {ck : Nat} {id v : Int} (h : getM M id = none) : updIn .i64 id (i64 v) (.map ⟨encM evZ M⟩ ck) = some (undef, .map ⟨encM evZ (M ++ [(id, v, ck)])⟩ (ck + 1)) := by
  rw [updM (ev := evZ) M ck id v rfl, setM_new h]
  unfold newM
  rw [h]; rfl
theorem updNew0 {M : MapW} {id v : Int} (h : M = []) : updIn .i64 id (i64 v) (.map ⟨[]⟩ 0) = some (undef, .map ⟨encM evZ (M ++ [(id, v, 0)])⟩ (0 + 1)) := by
  subst h; exact updNew (M := []) rfl
abbrev nmS (k nk n16 : Nat) (i : Nat) : Nat := if i = k then nk else if i = 16 then n16 else 510 + i
abbrev oS (k nk n16 : Nat) (o : Nat → Option Nat) (i : Nat) : Option Nat := if i = k then some nk else if i = 16 then some n16 else o i
abbrev ckS (k ckk c16 : Nat) (ck : Nat → Nat) (i : Nat) : Nat := if i = k then ckk else if i = 16 then c16 else ck i
abbrev msS (k : Nat) (id v : Int) (ck0 : Nat → Nat) (Ms : Nat → MapW) (i : Nat) : MapW := if i = k ∨ i = 16 then Ms i ++ [(id, v, ck0 i)] else Ms i
abbrev ck2S (k : Nat) (ck0 : Nat → Nat) (i : Nat) : Nat := if i = k ∨ i = 16 then ck0 i + 1 else ck0 i
abbrev nmsS : List Nat := [500, 510, 511, 512, 513, 514, 515, 516, 517, 518, 519, 520, 521, 522, 523, 524, 525, 526, 1000, 1001]
theorem nmsS_in (n : Nat) (h : (510 ≤ n ∧ n ≤ 526) ∨ n = 1000 ∨ n = 1001) : memL n nmsS = true := by
  rw [memL_iff]; simp only [nmsS, List.mem_cons, List.not_mem_nil, or_false]; omega
theorem pack_set {h : List (Nat × GO)} {t : TypeId} {rest : List Value} {o : Nat → Option Nat} {Ms : Nat → MapW} {ck : Nat → Nat} {T : List (Int × Int)} {id v : Int} (k nk n16 ckk c16 : Nat) (hI : WhI Ms ck T) (hO : WhO o nm510 Ms) (hl : lookT id T = none) (hv : 0 ≤ v ∧ v ≤ 1099511627776) (hk : k < 16) (hj : v.tmod 16 = (k : Int))
    (h1 : (nk = 510 + k ∧ ckk = ck k) ∨ (nk = 1000 ∧ Ms k = [])) (h2 : (n16 = 526 ∧ c16 = ck 16) ∨ (n16 = 1000 ∧ Ms 16 = []) ∨ (n16 = 1001 ∧ Ms 16 = [])) (hne : nk ≠ n16)
    (hc : look h 500 = some (.rw (.cells ⟨whC (oS k nk n16 o) (rest.map lit)⟩ t))) (hm : subL (whM (nmS k nk n16) (msS k id v (ckS k ckk c16 ck) Ms) (ck2S k (ckS k ckk c16 ck))) h) : Packs h 500 nmsS (WheelR t rest (T ++ [(id, v)])) := by
  refine pack_wheel hc hm rfl (fun i hi => ?_) (fun i j hi hj e => ?_) ⟨fun i hi => ?_⟩ ((hI.clock (ck' := ckS k ckk c16 ck) fun i hi => ?_).add hl hj hv)
  · apply nmsS_in
    show (510 ≤ (if i = k then nk else if i = 16 then n16 else 510 + i) ∧ _) ∨ _
    split
    · omega
    · split <;> omega
  · simp only [nmS] at e
    split at e <;> split at e <;> (try split at e) <;> (try split at e) <;> omega
  · simp only [oS, nmS, msS]
    by_cases e : i = k
    · simp [e]
    · by_cases e2 : i = 16
      · simp [e, e2, show ¬ 16 = k by omega]
      · simp only [e, e2, if_false, or_self]
        exact hO.sl i hi
  · simp only [ckS]
    by_cases e : i = k
    · subst e
      rcases h1 with ⟨_, h1⟩ | ⟨_, h1⟩
      · right; simp [h1]
      · left; exact h1
    · by_cases e2 : i = 16
      · subst e2
        rcases h2 with ⟨_, h2⟩ | ⟨_, h2⟩ | ⟨_, h2⟩
        · right; simp [e, h2]
        · left; exact h2
        · left; exact h2
      · right; simp [e, e2]
end Go.Proofs.Ytliaoaejmmkkjaa

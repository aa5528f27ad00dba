/- The walk of DuctPairs, whole. -/
import Derived.Test.YtodhcgidmdeifaaDuPb
import Derived.Test.YtodhcgidmdeifaaDuPc
namespace Go.Proofs.Ytodhcgidmdeifaa
open Go.RowKit Go.Kit Go.Proofs.YtodhcgidmdeifaaW.PrintWords
theorem DuctPairs_walk (r first : Int) (A B : Option Addr) (lenA capA lenB capB : Nat) (xs ys : List Int) (w : World) (hx : RB w A lenA xs) (hcx : lenA ≤ capA) (hy : RB w B lenB ys) (hcy : lenB ≤ capB) :
    Calls Try.prog 5 #[.agg #[.int .i64 r, .slice A lenA capA, .slice B lenB capB, .int .i64 first]] w fun e w' => e = .returned (.bool true) ∧ Below w.heap.size w w' := by
  by_cases hr : 1 ≤ r ∧ r ≤ 4194304
  · exact DuctPairs_core r first A B lenA capA lenB capB xs ys w hx hcx hy hcy _ _ _ (i64_and1 first) (i64_and2 first) (i64_and3 first) (by omega) hr
  · exact DuctPairs_bad r first A B lenA capA lenB capB w hr
end Go.Proofs.Ytodhcgidmdeifaa

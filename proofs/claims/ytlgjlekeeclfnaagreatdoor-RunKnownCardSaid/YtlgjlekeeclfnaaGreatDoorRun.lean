/-
  The run comes to true, for every tape and in every memory.
-/
import Derived.Test.YtlgjlekeeclfnaaGreatDoorPiece1
import Derived.Test.YtlgjlekeeclfnaaGreatDoorPiece2
import Derived.Test.YtlgjlekeeclfnaaGreatDoorPiece3
import Derived.Test.YtlgjlekeeclfnaaGreatDoorLast
namespace Go.Proofs.YtlgjlekeeclfnaaGreatDoor
open Go Go.AM Go.RowKit

theorem noG : (Tryz.prog.funcs.toList.all fun fn => !(fn.name == "runtime.NumGoroutine")) = true := by kernel_rfl

theorem good : Go.AM.Good Tryz.prog noX where
  noG := by
    intro f fn hf _
    have h := List.all_eq_true.1 noG fn (Array.mem_toList_iff.2 (Array.mem_of_getElem? hf))
    simpa using h
  ext := by intro f fn args v _ _ hx; cases hx

theorem start : startA Tryz.prog 3 [] = some S0 := by kernel_rfl

theorem to_S3 : Go.AM.Reach Tryz.prog S0 S3 := (((Go.AM.Reach.refl S0).piece good 30000 piece1).piece good 35230 piece2).piece good 29770 piece3

theorem law_any (w : World) : Calls Tryz.prog 3 #[] w fun e w' => e = .returned (.bool true) ∧ Below w.heap.size w w' := by
  have h := last_comes
  unfold lastB at h
  split at h
  · rename_i b h' ha
    subst h
    have h2 : runC 30997 Tryz.prog noX (ofAS S3) = runA Tryz.prog noX 30997 S3 := by rw [runC_eq, toAS_ofAS]
    rw [h2] at ha
    refine (calls_of_reach start (to_S3.run good 30997) ha w).mono ?_
    rintro en w' ⟨v', rfl, hb, e', hv⟩
    cases hv
    exact ⟨rfl, hb⟩
  · cases h
end Go.Proofs.YtlgjlekeeclfnaaGreatDoor

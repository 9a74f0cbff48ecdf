/-
  The last piece of the run, by the kernel.
-/
import Derived.Test.YtlgjlekeeclfnaaGreatDoorStates
namespace Go.Proofs.YtlgjlekeeclfnaaGreatDoor
open Go Go.AM
noncomputable def lastB : Bool :=
  match answerOf Tryz.prog 3 (runC 30997 Tryz.prog noX (ofAS S3)) with
  | some (.bool b, _) => b
  | _ => false
theorem last_comes : lastB = true := by kernel_rfl
end Go.Proofs.YtlgjlekeeclfnaaGreatDoor

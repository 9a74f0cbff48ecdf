/-
  Piece 3 of the run, by the kernel.
-/
import Derived.Test.YtlgjlekeeclfnaaGreatDoorStates
namespace Go.Proofs.YtlgjlekeeclfnaaGreatDoor
open Go Go.AM
theorem piece3 : viewOf (runC 29770 Tryz.prog noX (ofAS S2)) (S3T :: S3m) S3h S3p S3d S3f 3639 = (S3x :: S3l, S3p.map (fun x => some x.2.1), S3d.map (fun x => some x.2), true) := by kernel_rfl
end Go.Proofs.YtlgjlekeeclfnaaGreatDoor

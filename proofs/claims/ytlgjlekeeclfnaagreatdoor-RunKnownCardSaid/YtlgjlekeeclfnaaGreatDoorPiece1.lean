/-
  Piece 1 of the run, by the kernel.
-/
import Derived.Test.YtlgjlekeeclfnaaGreatDoorStates
namespace Go.Proofs.YtlgjlekeeclfnaaGreatDoor
open Go Go.AM
theorem piece1 : viewOf (runC 30000 Tryz.prog noX (ofAS S0)) (S1T :: S1m) S1h S1p S1d S1f 2165 = (S1x :: S1l, S1p.map (fun x => some x.2.1), S1d.map (fun x => some x.2), true) := by kernel_rfl
end Go.Proofs.YtlgjlekeeclfnaaGreatDoor

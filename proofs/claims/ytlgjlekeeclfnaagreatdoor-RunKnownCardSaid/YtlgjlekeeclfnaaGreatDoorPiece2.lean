/-
  Piece 2 of the run, by the kernel.
-/
import Derived.Test.YtlgjlekeeclfnaaGreatDoorStates
namespace Go.Proofs.YtlgjlekeeclfnaaGreatDoor
open Go Go.AM
theorem piece2 : viewOf (runC 35230 Tryz.prog noX (ofAS S1)) (S2T :: S2m) S2h S2p S2d S2f 2785 = (S2x :: S2l, S2p.map (fun x => some x.2.1), S2d.map (fun x => some x.2), true) := by kernel_rfl
end Go.Proofs.YtlgjlekeeclfnaaGreatDoor

/- The closed facts of the whole program that every statement's frame asks. -/
import Derived.Test.YtaeklmnleampcaaFrame
namespace Go.Proofs.Ytaeklmnleampcaa

theorem pmRowed : mapsRowed Try.prog = true := by kernel_rfl
theorem pmStops : (Try.prog.stops == []) = true := by kernel_rfl
theorem pmKnobs : (Try.prog.stopKnobs == []) = true := by kernel_rfl
theorem pmHeard : Try.prog.stopsHeard = true := by kernel_rfl
theorem pmEnter : Try.prog.mayEnter = true := by kernel_rfl
theorem pmLifts : Try.prog.liftsFinal = false := by kernel_rfl
theorem pmMake : (Try.prog.make == some .cut) = true := by kernel_rfl

end Go.Proofs.Ytaeklmnleampcaa

/- sizes -/
import Derived.Test.YtjhadibjjldpdaaGreatXM
import Derived.Test.YtjhadibjjldpdaaGreatAmV
namespace Go.Proofs.YtjhadibjjldpdaaGreat
open Go.RowKit
set_option linter.unusedVariables false
set_option maxRecDepth 100000
set_option maxHeartbeats 2000000
def okArbor_ (x : Arbor_) : Prop := osS x.Name ∧ (osL osI) x.Wheels
def okMesh_ (x : Mesh_) : Prop := osI x.A ∧ osI x.WheelA ∧ osI x.B ∧ osI x.WheelB
def okWorks_ (x : Works_) : Prop := (osL okArbor_) x.Arbors ∧ (osL okMesh_) x.Meshes
def okMonth_ (x : Month_) : Prop := osS x.Name ∧ osI x.Days ∧ osI x.Leap
def okLeapRule_ (x : LeapRule_) : Prop := osI x.Every ∧ osI x.Rest ∧ (fun _ => True) x.Leap
def okCalendar_ (x : Calendar_) : Prop := osS x.Name ∧ (osL okMonth_) x.Months ∧ (osL okLeapRule_) x.Rules ∧ osI x.Week
def okMovement_ (x : Movement_) : Prop := osS x.Name ∧ okWorks_ x.Works ∧ osI x.Minute ∧ osI x.Hour ∧ osI x.Escape ∧ osI x.Teeth ∧ osI x.Beats ∧ okCalendar_ x.Calendar ∧ (osL osI) x.Cam ∧ osI x.Strike
def okDate_ (x : Date_) : Prop := osI x.Year ∧ osI x.Month ∧ osI x.Day
def okPerpetual_ (x : Perpetual_) : Prop := (osL osI) x.Cam ∧ osI x.Months ∧ osI x.Teeth ∧ osI x.At ∧ osI x.Day ∧ osI x.Week ∧ osI x.Weekday
def okSim_ (x : Sim_) : Prop := okMovement_ x.Movement ∧ okDate_ x.Start ∧ osI x.First ∧ osI x.Clock ∧ okPerpetual_ x.Dial
end Go.Proofs.YtjhadibjjldpdaaGreat

/- sizes -/
import Derived.Test.YtplnohfjeilodaaXM
import Derived.Test.YtplnohfjeilodaaAmV
namespace Go.Proofs.Ytplnohfjeilodaa
open Go.RowKit
set_option linter.unusedVariables false
set_option maxRecDepth 100000
set_option maxHeartbeats 2000000
def okSpot_ (x : Spot_) : Prop := osI x.X ∧ osI x.Y
def okShape_ (x : Shape_) : Prop := osI x.Kind ∧ okSpot_ x.A ∧ okSpot_ x.B ∧ osI x.R ∧ osS x.Name
def okDrawing_ (x : Drawing_) : Prop := (osL okShape_) x.Shapes
def okAngle_ (x : Angle_) : Prop := osI x.Sin ∧ osI x.Cos ∧ osI x.Hyp
def okProfile_ (x : Profile_) : Prop := osI x.Teeth ∧ osI x.Module ∧ osI x.Addendum ∧ okAngle_ x.Angle
def okPoint_ (x : Point_) : Prop := osI x.X ∧ osI x.Y
def okSite_ (x : Site_) : Prop := osS x.Name ∧ okPoint_ x.At ∧ osI x.Wheel ∧ osI x.Staff
def okPlate_ (x : Plate_) : Prop := osI x.Width ∧ osI x.Height ∧ osI x.Margin ∧ osI x.Gap ∧ (osL okSite_) x.Sites
end Go.Proofs.Ytplnohfjeilodaa

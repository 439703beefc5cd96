/- Short names for rows of a frame that a region fills. -/
import Derived.RowKit
namespace Go.Proofs.Ythacgkafdjnppaa.OpenRow
theorem s1 {α : Type} (l : List α) (i : Nat) (a : α) : l.toArray.setIfInBounds i a = (l.set i a).toArray := List.setIfInBounds_toArray ..
theorem s2 {α : Type} (x : α) (l : List α) (a : α) : (x :: l).set 0 a = a :: l := rfl
theorem s3 {α : Type} (x : α) (l : List α) (n : Nat) (a : α) : (x :: l).set (n + 1) a = x :: l.set n a := rfl
end Go.Proofs.Ythacgkafdjnppaa.OpenRow
namespace Go.Proofs.Ythacgkafdjnppaa.OpenS
theorem here : True := trivial
end Go.Proofs.Ythacgkafdjnppaa.OpenS

/- The document's log stays where calls on others turn other blocks. -/
import Derived.Test.YtpjpknndfhablaaKeep
import Derived.Test.YtpjpknndfhablaaRlogF
namespace Go.Proofs.Ytpjpknndfhablaa
open Go.RowKit
theorem RlogAt.keepsOff {ts : List TypeId} {w w' : World} (hk : KeepsOff ts w w') (h1 : 120 ∉ ts) {x y : Nat} {l : Wal.LS} (h : RlogAt w x y l) : RlogAt w' x y l := hk.cells h h1
theorem RlogAt.typed2 {w : World} {x y y' : Nat} {l : Wal.LS} {d : DS} {ub : Option Nat} (hl : RlogAt w x y' l) (h : RefAt w y d ub) : Typed [75, 120] w (ownR y x) := by
  rintro k (rfl | rfl)
  · obtain ⟨a, t, f, h1, h2⟩ := h.typed k rfl
    exact ⟨a, t, f, h1, by simp at h2; subst h2; simp⟩
  · exact ⟨_, _, _, hl, by simp⟩
end Go.Proofs.Ytpjpknndfhablaa

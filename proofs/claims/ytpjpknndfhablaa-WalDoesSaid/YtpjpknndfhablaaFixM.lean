/- The calls of the law's own 'fixed' of chapter 10, reckoned. Plain Lean. -/
import Derived.Test.YtpjpknndfhablaaWalQ
namespace Go.Proofs.Ytpjpknndfhablaa
namespace Wal
theorem Live.clean {l : LS} {d : DS} {snap : List UInt8} {rs : List (List UInt8)} (h : Live l d snap rs rs.length) : Clean d l.f l.g snap rs :=
  ⟨by rw [h.u]; simp [frames], h.g1, h.g2, h.sl, h.short, by rw [h.file, List.take_length], h.other⟩
def q0 : LS := { f := false, g := 1, n := 0, dead := false }
def e0 : DS := { a := head 1 [], armed := 0 }
theorem new_q : new {} = (some q0, e0, 0) := by rfl
def q1 : LS := (append q0 e0 [97]).1
def e1 : DS := (append q0 e0 [97]).2.1
def e2 : DS := (sync q1 e1).2.1
def q3 : LS := ((open_ e2).1.map (·.l)).getD {}
def e3 : DS := (open_ e2).2.1
def q4 : LS := ((open_ e3).1.map (·.l)).getD {}
def e4 : DS := (open_ e3).2.1
def q5 : LS := (checkpoint q4 e4 [115]).1
def e5 : DS := (checkpoint q4 e4 [115]).2.1
def e6 : DS := (open_ e5).2.1
def q6 : LS := ((open_ e5).1.map (·.l)).getD {}
theorem live0 : Live q0 e0 [] [] 0 ∧ e0.armed = 0 := by
  obtain ⟨l, h1, _, h2, h3⟩ := new_live new_q
  cases h1
  exact ⟨h2, h3⟩
theorem append_q : append q0 e0 [97] = (q1, e1, 0) ∧ Live q1 e1 [] [[97]] 0 ∧ e1.armed = 0 := by
  rcases append_live live0.1 [97] rfl with ⟨h, _⟩ | ⟨h1, h2, h3⟩ | ⟨_, _, _, h, _⟩
  · exfalso
    have : (append q0 e0 [97]).2.2 = 0 := by decide +kernel
    rw [this] at h
    omega
  · exact ⟨Prod.ext rfl (Prod.ext rfl h1), h2, h3 live0.2⟩
  · exact absurd live0.2 h
theorem room_q : room q1 e1 = 65536 ∧ q1.n = 1 := by decide +kernel
theorem sync_q : sync q1 e1 = (q1, e2, 0) ∧ Clean e2 q1.f q1.g [] [[97]] ∧ e2.armed = 0 ∧ e2.dead = false := by
  rcases sync_live append_q.2.1 rfl with ⟨h1, h2, h3, h4⟩ | ⟨_, _, _, h, _⟩
  · exact ⟨Prod.ext h2 (Prod.ext rfl h1), h3.clean, h4 append_q.2.2, h3.dd⟩
  · exact absurd append_q.2.2 h
theorem open_clean {d : DS} {f : Bool} {g : Nat} {snap : List UInt8} {rs : List (List UInt8)} (h : Clean d f g snap rs) (hd : d.dead = false) (ha : d.armed = 0) :
    open_ d = (some ⟨{ f := f, g := g, n := rs.length, dead := false }, snap, rs⟩, (open_ d).2.1, 0) ∧ Clean (open_ d).2.1 f g snap rs ∧ (open_ d).2.1.armed = 0 ∧ (open_ d).2.1.dead = false := by
  rcases open_sits h.sits hd rfl with ⟨_, _, _, _, h0⟩ | ⟨h1, h2, h3, h4, h5⟩
  · exact absurd ha h0
  · exact ⟨Prod.ext h1 (Prod.ext rfl h2), h4, h5 ha, h3⟩
theorem open_q : open_ e2 = (some ⟨q3, [], [[97]]⟩, e3, 0) ∧ Clean e3 q1.f q1.g [] [[97]] ∧ e3.armed = 0 ∧ e3.dead = false := by
  obtain ⟨h1, h2, h3, h4⟩ := open_clean sync_q.2.1 sync_q.2.2.2 sync_q.2.2.1
  refine ⟨?_, h2, h3, h4⟩
  rw [h1]
  have : q3 = { f := q1.f, g := q1.g, n := [([97] : List UInt8)].length, dead := false } := by unfold q3; rw [h1]; rfl
  rw [this]; rfl
theorem size_q : e3.size false = 29 := by decide +kernel
theorem open_q2 : open_ e3 = (some ⟨q4, [], [[97]]⟩, e4, 0) ∧ Live q4 e4 [] [[97]] 1 ∧ e4.armed = 0 := by
  obtain ⟨h1, h2, h3, h4⟩ := open_clean open_q.2.1 open_q.2.2.2 open_q.2.2.1
  have : q4 = { f := q1.f, g := q1.g, n := [([97] : List UInt8)].length, dead := false } := by unfold q4; rw [h1]; rfl
  refine ⟨?_, ?_, h3⟩
  · rw [h1, this]; rfl
  · rw [this]; exact h2.live h4
theorem check_q : checkpoint q4 e4 [115] = (q5, e5, 0) ∧ Live q5 e5 [115] [] 0 ∧ e5.armed = 0 := by
  rcases checkpoint_live open_q2.2.1 [115] rfl with ⟨h, _⟩ | ⟨h1, h2, h3⟩ | ⟨_, _, _, h, _⟩
  · exfalso
    have : (checkpoint q4 e4 [115]).2.2 = 0 := by decide +kernel
    rw [this] at h
    omega
  · exact ⟨Prod.ext rfl (Prod.ext rfl h1), h2, h3 open_q2.2.2⟩
  · exact absurd open_q2.2.2 h
theorem size_q5 : e5.size false = 0 ∧ e5.size true = 21 := by decide +kernel
theorem long_q {s : List UInt8} (hs : 65536 < s.length) : append q5 e5 s = (q5, e5, 101) := long_append check_q.2.1.ld hs
theorem open_q3 : open_ e5 = (some ⟨q6, [115], []⟩, e6, 0) := by
  obtain ⟨h1, h2, h3, h4⟩ := open_clean (check_q.2.1.clean) check_q.2.1.dd check_q.2.2
  have : q6 = { f := q5.f, g := q5.g, n := ([] : List (List UInt8)).length, dead := false } := by unfold q6; rw [h1]; rfl
  rw [h1, this]; rfl
theorem crc_q : crc [49, 50, 51, 52, 53, 54, 55, 56, 57] = 3421780262 := by decide +kernel
end Wal
end Go.Proofs.Ytpjpknndfhablaa

/- Whatever is of none of some types lies as it lay: disks and logs behind calls on others. -/
import Derived.Test.YtpjpknndfhablaaWalN
import Derived.Test.YtpjpknndfhablaaLawA
namespace Go.Proofs.Ytpjpknndfhablaa
open Go.RowKit
/-- Of none of these types. -/
def Off (ts : List TypeId) (o : Obj) : Prop := ∀ c t f, o = .cells c t f → t ∉ ts
theorem off_cells {ts : List TypeId} {c : Array Value} {t : TypeId} {f : Nat × Nat} (h : t ∉ ts) : Off ts (.cells c t f) := fun _ _ _ e => by cases e; exact h
def KeepsOff (ts : List TypeId) (w w' : World) : Prop := ∀ (g : Nat) (o : Obj), w.heap[g]? = some o → Off ts o → w'.heap[g]? = some o
theorem KeepsOff.refl (ts : List TypeId) (w : World) : KeepsOff ts w w := fun _ _ h _ => h
theorem KeepsOff.below {ts : List TypeId} {w w' : World} (h : Below w.heap.size w w') : KeepsOff ts w w' := fun _ _ hg _ => stays hg h
theorem KeepsOff.trans {ts : List TypeId} {w w1 w2 : World} (h : KeepsOff ts w w1) (h' : KeepsOff ts w1 w2) : KeepsOff ts w w2 := fun g o hg hn => h' g o (h g o hg hn) hn
theorem KeepsOff.mono {ts us : List TypeId} {w w' : World} (h : KeepsOff ts w w') (hs : ∀ t, t ∈ ts → t ∈ us) : KeepsOff us w w' := fun g o hg hn => h g o hg (fun c t f e ht => hn c t f e (hs t ht))
theorem KeepsOff.cells {ts : List TypeId} {w w' : World} (h : KeepsOff ts w w') {g : Nat} {c : Array Value} {t : TypeId} {f : Nat × Nat} (hg : w.heap[g]? = some (.cells c t f)) (ht : t ∉ ts) : w'.heap[g]? = some (.cells c t f) := h g _ hg (off_cells ht)
/-- These blocks are of those types. -/
def Typed (ts : List TypeId) (w : World) (S : Nat → Prop) : Prop := ∀ k, S k → ∃ c t f, w.heap[k]? = some (.cells c t f) ∧ t ∈ ts
theorem KeepsOff.of_touch {ts : List TypeId} {w w' : World} {S : Nat → Prop} (hs : Typed ts w S) (ht : Touch S w w') : KeepsOff ts w w' := by
  intro g o hg hn
  refine (ht.block g (heap_lt hg) fun h => ?_).trans hg
  obtain ⟨c, t, f, hc, hm⟩ := hs g h
  rw [hg] at hc
  exact hn c t f (Option.some.inj hc) hm
theorem KeepsOff.own {ts : List TypeId} {w w' : World} {base e size n : Nat} {v : Value} {xs : List Value} (hk : KeepsOff ts w w') (h : w.ownsRow base e size v n xs) (he : e ∉ ts) : w'.ownsRow base e size v n xs := by
  refine ⟨h.1, ?_⟩
  rcases h.2 with h0 | ⟨g, cap, cur, rfl, hb, hg, rest⟩
  · exact .inl h0
  · exact .inr ⟨g, cap, cur, rfl, hb, hk.cells hg he, rest⟩
theorem typed_own {ts : List TypeId} {w : World} {base e size n : Nat} {v : Value} {xs : List Value} (h : w.ownsRow base e size v n xs) (he : e ∈ ts) : Typed ts w (fun k => v.ownBlock = some k) := by
  intro k hk
  rcases h.2 with ⟨rfl, _⟩ | ⟨g, cap, cur, rfl, hb, hg, _⟩
  · cases hk
  · have e1 : g = k := Option.some.inj hk
    subst e1
    exact ⟨_, _, _, hg, he⟩
theorem DiskAt.typed {w : World} {c : Nat} {d : DS} {m : Nat} {rb : Option Nat} (h : DiskAt w c d m rb) : Typed [103, 106] w (own2 c rb) := by
  obtain ⟨_, rs, r, h, _, rfl⟩ := h
  rintro k (rfl | hk)
  · exact ⟨_, _, _, h.blk, by simp⟩
  · exact typed_own h.own (by simp) k hk
theorem RefAt.typed {w : World} {y : Nat} {d : DS} {ub : Option Nat} (h : RefAt w y d ub) : Typed [75] w (· = y) := by
  obtain ⟨_, us, h, _⟩ := h
  rintro k rfl
  exact ⟨_, _, _, h.blk, by simp⟩
theorem DiskAt.keepsOff {ts : List TypeId} {w w' : World} (hk : KeepsOff ts w w') (h1 : 103 ∉ ts) (h2 : 106 ∉ ts) {c : Nat} {d : DS} {m : Nat} {rb : Option Nat} (h : DiskAt w c d m rb) : DiskAt w' c d m rb := by
  obtain ⟨ok, rs, r, h, hm, rfl⟩ := h
  exact ⟨ok, rs, r, ⟨hk.cells h.blk h1, hk.own h.own h2, h.u⟩, hm, rfl⟩
theorem RefAt.keepsOff {ts : List TypeId} {w w' : World} (hk : KeepsOff ts w w') (h1 : 75 ∉ ts) (h2 : 131 ∉ ts) {y : Nat} {d : DS} {ub : Option Nat} (h : RefAt w y d ub) : RefAt w' y d ub := by
  obtain ⟨ok, us, h, rfl⟩ := h
  exact ⟨ok, us, ⟨hk.cells h.blk h1, hk.own h.own h2⟩, rfl⟩
theorem LogAt.keepsOff {ts : List TypeId} {w w' : World} (hk : KeepsOff ts w w') (h1 : 113 ∉ ts) {x c : Nat} {l : Wal.LS} (h : LogAt w x c l) : LogAt w' x c l := hk.cells h h1
theorem Two.keepsOff {ts : List TypeId} {w w' : World} (hk : KeepsOff ts w w') (h1 : 9 ∉ ts) {g : Nat} {s t : List UInt8} (h : Two w g s t) : Two w' g s t := by
  obtain ⟨cur, hg, h0, h1'⟩ := h
  exact ⟨cur, hk.cells hg h1, h0, h1'⟩
theorem RecsAt.keepsOff {ts : List TypeId} {w w' : World} (hk : KeepsOff ts w w') (h1 : 9 ∉ ts) {base : Nat} {v : Value} {rs : List (List UInt8)} (h : RecsAt w base v rs) : RecsAt w' base v rs := by
  obtain ⟨g, cur, hv, hb, hg, rest⟩ := h
  exact ⟨g, cur, hv, hb, hk.cells hg h1, rest⟩
theorem LogAt.typed3 {w : World} {x c c' : Nat} {l : Wal.LS} {d : DS} {m : Nat} {rb : Option Nat} (hl : LogAt w x c' l) (h : DiskAt w c d m rb) : Typed [103, 106, 113] w (own3 c rb x) := by
  rintro k (hk | rfl)
  · obtain ⟨a, t, f, h1, h2⟩ := h.typed k hk
    exact ⟨a, t, f, h1, by simp at h2; rcases h2 with rfl | rfl <;> simp⟩
  · exact ⟨_, _, _, hl, by simp⟩
end Go.Proofs.Ytpjpknndfhablaa

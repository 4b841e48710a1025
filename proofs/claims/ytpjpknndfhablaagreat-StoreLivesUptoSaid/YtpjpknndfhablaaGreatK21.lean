/- The log of chapter 10: opening what sits on a disk; calls on an open log. Plain Lean. One log of the program on a disk that the call itself made: the contracts once more. Calls on the disk under a store with its transactions: Arm, Crash, Revive. What a commit makes of a store's pairs. Plain laws. The calls of the law's own 'fixed' of chapter 10, reckoned. Plain Lean. What a store's records say. Plain laws for the lives of a store. The calls of the law's own 'fixed' of chapter 11, reckoned. Plain Lean. -/
import Derived.Test.YtpjpknndfhablaaGreatK6
import Derived.Test.YtpjpknndfhablaaGreatK14
import Derived.Test.YtpjpknndfhablaaGreatK18
import Derived.Test.YtpjpknndfhablaaGreatK19
import Derived.Test.YtpjpknndfhablaaGreatK20
namespace Go.Proofs.YtpjpknndfhablaaGreat
namespace Wal
theorem Sits.len {d : DS} {f : Bool} {g : Nat} {snap : List UInt8} {rs : List (List UInt8)} (h : Sits d f g snap rs) : 20 + snap.length + (frames rs).length ≤ (d.base f).length := by
  obtain ⟨x, k, _, _, hf⟩ := h.file
  rw [hf]; simp [head_length]
theorem tick_base (d : DS) (f : Bool) : d.tick.base f = d.base f := by cases f <;> rfl
/-- Behind the first cut of an opening. -/
theorem cutEnd_cases {d : DS} {f : Bool} {g : Nat} {snap : List UInt8} {rs : List (List UInt8)} (h : Sits d f g snap rs) (hd : d.dead = false) {r : DS × Int} (hr : cutEnd d f (20 + snap.length + (frames rs).length) = r) :
    (r.2 = 2 ∧ r.1.dead = true ∧ Sits r.1 f g snap rs ∧ d.armed ≠ 0) ∨
      (r.2 = 0 ∧ r.1.dead = false ∧ r.1.u = [] ∧ r.1.base f = head g snap ++ frames rs ∧ r.1.base (!f) = d.base (!f) ∧ (d.armed = 0 → r.1.armed = 0)) := by
  obtain ⟨x, k, hx, hk, hf⟩ := h.file
  subst hr
  unfold cutEnd
  by_cases hp : 20 + snap.length + (frames rs).length < (d.file f).length
  · rw [if_pos hp]
    rcases cut_cases h.u hd (f := f) h.len with ⟨hg, hc⟩ | ⟨hg, hc⟩
    · right
      have hc' : d.cut (DS.fi f) ((20 + snap.length + (frames rs).length : Nat) : Int) = (d.tick.short f (20 + snap.length + (frames rs).length), 0) := hc
      rw [hc']
      obtain ⟨b1, b2, b3, b4, b5⟩ := short_base d.tick f (20 + snap.length + (frames rs).length)
      refine ⟨rfl, by rw [b4]; exact hd, by rw [b3]; exact h.u, ?_, by rw [b2, tick_base], fun h0 => by rw [b5]; simp [DS.tick, h0]⟩
      rw [b1, tick_base, hf, ← List.append_assoc, List.take_left' (by simp [head_length])]
    · left
      have hc' : d.cut (DS.fi f) ((20 + snap.length + (frames rs).length : Nat) : Int) = (d.tick.die d.keep, 2) := hc
      rw [hc']
      exact ⟨rfl, rfl, h.same rfl (fun q => by rw [DS.die_tick]; exact die_base h.u _ q), goes_true hg⟩
  · rw [if_neg hp]
    right
    have hk0 : (frame x).take k = [] := by
      rw [file_base h.u, hf] at hp
      simp only [List.length_append, List.length_take, head_length] at hp
      have hm : min k (frame x).length = 0 := by omega
      apply List.eq_nil_of_length_eq_zero; rw [List.length_take]; exact hm
    exact ⟨rfl, hd, h.u, by rw [hf, hk0, List.append_nil], rfl, fun h0 => h0⟩
theorem cutOther_cases {d : DS} {f : Bool} (hu : d.u = []) (hd : d.dead = false) {other : List UInt8} (ho : d.base f = other) {r : DS × Int} (hr : cutOther d f other = r) :
    (r.2 = 2 ∧ r.1.dead = true ∧ r.1.u = [] ∧ (∀ q, r.1.base q = d.base q) ∧ d.armed ≠ 0) ∨
      (r.2 = 0 ∧ r.1.dead = false ∧ r.1.u = [] ∧ r.1.base f = [] ∧ r.1.base (!f) = d.base (!f) ∧ (d.armed = 0 → r.1.armed = 0)) := by
  subst hr
  unfold cutOther
  by_cases hn : other ≠ []
  · rw [if_pos hn]
    rcases cut_cases hu hd (f := f) (p := 0) (by omega) with ⟨hg, hc⟩ | ⟨hg, hc⟩
    · right
      have hc' : d.cut (DS.fi f) 0 = (d.tick.short f 0, 0) := hc
      rw [hc']
      obtain ⟨b1, b2, b3, b4, b5⟩ := short_base d.tick f 0
      exact ⟨rfl, by rw [b4]; exact hd, by rw [b3]; exact hu, by rw [b1]; rfl, by rw [b2, tick_base], fun h0 => by rw [b5]; simp [DS.tick, h0]⟩
    · left
      have hc' : d.cut (DS.fi f) 0 = (d.tick.die d.keep, 2) := hc
      rw [hc']
      exact ⟨rfl, rfl, rfl, fun q => by rw [DS.die_tick]; exact die_base hu _ q, goes_true hg⟩
  · rw [if_neg hn]
    right
    exact ⟨rfl, hd, hu, by rw [ho]; simpa using hn, rfl, fun h0 => h0⟩
/-- What an opening tells of what sits there: it, and all is clean; or the power goes, and it sits there still. -/
theorem open_sits {d : DS} {f : Bool} {g : Nat} {snap : List UInt8} {rs : List (List UInt8)} (h : Sits d f g snap rs) (hd : d.dead = false) {r : Option Opened × DS × Int} (hr : open_ d = r) :
    (r.1 = none ∧ r.2.2 = 2 ∧ r.2.1.dead = true ∧ Sits r.2.1 f g snap rs ∧ d.armed ≠ 0) ∨
      (r.1 = some ⟨{ f := f, g := g, n := rs.length, dead := false }, snap, rs⟩ ∧ r.2.2 = 0 ∧ r.2.1.dead = false ∧ Clean r.2.1 f g snap rs ∧ (d.armed = 0 → r.2.1.armed = 0)) := by
  obtain ⟨e1, e2⟩ := h.shown
  have hg := h.g1
  subst hr
  unfold open_
  rw [if_neg (by simp [hd]), e1, if_neg (by simp; omega), e2, h.best]
  simp only
  have ho : d.file (!f) = d.base (!f) := file_base h.u _
  rcases cutEnd_cases h hd rfl with ⟨r1, r2, r3, r4⟩ | ⟨r1, r2, r3, r4, r5, r6⟩
  · left
    have hc : cuts d f (20 + snap.length + (frames rs).length) = cutEnd d f (20 + snap.length + (frames rs).length) := by unfold cuts; rw [if_pos (by rw [r1]; decide)]
    rw [hc, if_pos (by rw [r1]; decide)]
    exact ⟨rfl, rfl, r2, r3, r4⟩
  · have hc : cuts d f (20 + snap.length + (frames rs).length) = cutOther (cutEnd d f (20 + snap.length + (frames rs).length)).1 (!f) (d.file (!f)) := by unfold cuts; rw [if_neg (by rw [r1]; decide)]
    rw [hc]
    have hs : Sits (cutEnd d f (20 + snap.length + (frames rs).length)).1 f g snap rs :=
      ⟨r3, h.g1, h.g2, h.sl, h.short, ⟨[], 0, by simp, by simp [frame_length], by simp [r4]⟩, by rw [r5]; exact h.other⟩
    rcases cutOther_cases r3 r2 (f := !f) (other := d.file (!f)) (by rw [ho]; exact r5) rfl with ⟨q1, q2, q3, q4, q5⟩ | ⟨q1, q2, q3, q4, q5, q6⟩
    · left
      rw [if_pos (by rw [q1]; decide)]
      exact ⟨rfl, rfl, q2, hs.same q3 q4, fun h0 => q5 (r6 h0)⟩
    · right
      rw [if_neg (by rw [q1]; decide)]
      exact ⟨rfl, rfl, q2, ⟨q3, h.g1, h.g2, h.sl, h.short, by simp only [Bool.not_not] at q5; exact q5.trans r4, q4⟩, fun h0 => q6 (r6 h0)⟩

/-- An open log on its disk: the first m records are safe. -/
structure Live (l : LS) (d : DS) (snap : List UInt8) (rs : List (List UInt8)) (m : Nat) : Prop where
  ld : l.dead = false
  dd : d.dead = false
  g1 : 1 ≤ l.g
  g2 : l.g ≤ 4611686018427387904
  n : l.n = rs.length
  sl : snap.length ≤ 524288
  short : Short rs
  le : m ≤ rs.length
  file : d.base l.f = head l.g snap ++ frames (rs.take m)
  u : d.u = (frames (rs.drop m)).map (l.f, ·)
  other : d.base (!l.f) = []
theorem Clean.live {d : DS} {f : Bool} {g : Nat} {snap : List UInt8} {rs : List (List UInt8)} (h : Clean d f g snap rs) (hd : d.dead = false) : Live { f := f, g := g, n := rs.length, dead := false } d snap rs rs.length :=
  ⟨rfl, hd, h.g1, h.g2, rfl, h.sl, h.short, Nat.le_refl _, by simp [h.file], by simp [h.u, frames], h.other⟩
theorem Short.take {rs : List (List UInt8)} (h : Short rs) (j : Nat) : Short (rs.take j) := fun s hs => h s (List.mem_of_mem_take hs)
theorem Short.drop {rs : List (List UInt8)} (h : Short rs) (j : Nat) : Short (rs.drop j) := fun s hs => h s (List.mem_of_mem_drop hs)
theorem Short.snoc {rs : List (List UInt8)} (h : Short rs) {s : List UInt8} (hs : s.length ≤ 65536) : Short (rs ++ [s]) := fun x hx => by
  rcases List.mem_append.1 hx with hx | hx
  · exact h x hx
  · simp at hx; subst hx; exact hs
/-- Unsafe bytes of one file alone: what is left of them. -/
theorem die_one {d : DS} {f : Bool} {b : List UInt8} (hu : d.u = b.map (f, ·)) (k : Nat) : (d.die k).base f = d.base f ++ b.take k ∧ (d.die k).base (!f) = d.base (!f) ∧ (d.die k).u = [] := by
  have h1 : DS.of f (d.u.take k) = b.take k := by rw [hu, ← List.map_take]; exact DS.of_map_same f _
  have h2 : DS.of (!f) (d.u.take k) = [] := by rw [hu, ← List.map_take]; exact DS.of_map_other (!f) f _ (by cases f <;> simp)
  cases f
  · exact ⟨by show d.left k false = _; rw [DS.left, h1], by show d.left k true = _; rw [DS.left]; simp only [Bool.not_false] at h2; rw [h2, List.append_nil]; rfl, rfl⟩
  · exact ⟨by show d.left k true = _; rw [DS.left, h1], by show d.left k false = _; rw [DS.left]; simp only [Bool.not_true] at h2; rw [h2, List.append_nil]; rfl, rfl⟩
/-- Unsafe frames behind a log: some of the records are left. -/
theorem sits_die {d : DS} {f : Bool} {g : Nat} {snap : List UInt8} {rs : List (List UInt8)} {m : Nat} (g1 : 1 ≤ g) (g2 : g ≤ 4611686018427387904) (sl : snap.length ≤ 524288) (short : Short rs) (hm : m ≤ rs.length)
    (file : d.base f = head g snap ++ frames (rs.take m)) (hu : d.u = (frames (rs.drop m)).map (f, ·)) (other : d.base (!f) = []) (k : Nat) : ∃ j, m ≤ j ∧ j ≤ rs.length ∧ Sits (d.die k) f g snap (rs.take j) := by
  obtain ⟨h1, h2, h3⟩ := die_one hu k
  obtain ⟨j, x, q, a1, a2, a3, a4⟩ := take_frames (rs.drop m) (short.drop m) k
  rw [List.length_drop] at a1
  refine ⟨m + j, by omega, by omega, h3, g1, g2, sl, short.take _, ⟨x, q, a2, a3, ?_⟩, by rw [h2, other, counts_nil]; exact g1⟩
  rw [h1, file, a4, List.append_assoc, ← List.append_assoc (frames _) (frames _), ← frames_append, List.take_add]
theorem Live.crash {l : LS} {d : DS} {snap : List UInt8} {rs : List (List UInt8)} {m : Nat} (h : Live l d snap rs m) (k : Nat) : ∃ j, m ≤ j ∧ j ≤ rs.length ∧ Sits (d.die k) l.f l.g snap (rs.take j) :=
  sits_die h.g1 h.g2 h.sl h.short h.le h.file h.u h.other k
theorem of_u {l : LS} {d : DS} {snap : List UInt8} {rs : List (List UInt8)} {m : Nat} (h : Live l d snap rs m) : d.file l.f = head l.g snap ++ frames rs ∧ d.file (!l.f) = [] := by
  constructor
  · rw [DS.file, h.u, DS.of_map_same, h.file, List.append_assoc, ← frames_append, List.take_append_drop]
  · rw [DS.file, h.u, DS.of_map_other _ _ _ (by cases l.f <;> simp), h.other]; rfl
/-- An append: it is refused and nothing has changed; or it is done; or the power goes, and some beginning of the records is left. -/
theorem append_live {l : LS} {d : DS} {snap : List UInt8} {rs : List (List UInt8)} {m : Nat} (h : Live l d snap rs m) (s : List UInt8) {r : LS × DS × Int} (hr : append l d s = r) :
    ((r.2.2 = 101 ∨ r.2.2 = 102) ∧ r.1 = l ∧ r.2.1 = d) ∨
    (r.2.2 = 0 ∧ Live r.1 r.2.1 snap (rs ++ [s]) m ∧ (d.armed = 0 → r.2.1.armed = 0)) ∨
    (r.2.2 = 2 ∧ r.1.dead = true ∧ r.2.1.dead = true ∧ d.armed ≠ 0 ∧ ∃ j, m ≤ j ∧ j ≤ rs.length + 1 ∧ Sits r.2.1 l.f l.g snap ((rs ++ [s]).take j)) := by
  subst hr
  unfold append
  rw [if_neg (by simp [h.ld])]
  by_cases h1 : 65536 < s.length
  · rw [if_pos h1]; exact .inl ⟨.inl rfl, rfl, rfl⟩
  by_cases h2 : 1048576 < d.size l.f + 8 + s.length
  · rw [if_neg h1, if_pos h2]; exact .inl ⟨.inr rfl, rfl, rfl⟩
  rw [if_neg h1, if_neg h2]
  have hshort := h.short.snoc (s := s) (by omega)
  have hm := h.le
  have hlay : (d.tick.lay l.f (frame s)).base l.f = head l.g snap ++ frames ((rs ++ [s]).take m) ∧ (d.tick.lay l.f (frame s)).u = (frames ((rs ++ [s]).drop m)).map (l.f, ·) ∧ (d.tick.lay l.f (frame s)).base (!l.f) = [] := by
    refine ⟨?_, ?_, ?_⟩
    · have : (d.tick.lay l.f (frame s)).base l.f = d.base l.f := by cases l.f <;> rfl
      rw [this, h.file, List.take_append_of_le_length hm]
    · show d.u ++ (frame s).map (l.f, ·) = _
      rw [h.u, List.drop_append_of_le_length hm, frames_append, List.map_append]; simp [frames]
    · have : (d.tick.lay l.f (frame s)).base (!l.f) = d.base (!l.f) := by cases l.f <;> rfl
      rw [this, h.other]
  obtain ⟨k1, k2, k3⟩ := hlay
  have ha : d.append (DS.fi l.f) (frame s) = if d.goes then ((d.tick.lay l.f (frame s)).die d.keep, 2) else (d.tick.lay l.f (frame s), 0) := by
    unfold DS.append
    rw [if_neg (by simp [h.dd]), DS.fileNo_of]
    simp only
    rw [if_neg (by rw [frame_length]; omega)]
  rw [ha]
  cases hg : d.goes
  · refine .inr (.inl ⟨rfl, ⟨h.ld, h.dd, h.g1, h.g2, by simp [h.n], h.sl, hshort, by simp; omega, k1, k2, k3⟩, fun h0 => ?_⟩)
    show d.armed - 1 = 0
    omega
  · refine .inr (.inr ⟨rfl, rfl, rfl, goes_true hg, ?_⟩)
    have := sits_die (d := d.tick.lay l.f (frame s)) h.g1 h.g2 h.sl hshort (m := m) (by simp; omega) k1 k2 k3 d.keep
    simpa using this
theorem saved_base (d : DS) (f : Bool) : d.saved.base f = d.file f := by cases f <;> rfl
/-- A sync. -/
theorem sync_live {l : LS} {d : DS} {snap : List UInt8} {rs : List (List UInt8)} {m : Nat} (h : Live l d snap rs m) {r : LS × DS × Int} (hr : sync l d = r) :
    (r.2.2 = 0 ∧ r.1 = l ∧ Live l r.2.1 snap rs rs.length ∧ (d.armed = 0 → r.2.1.armed = 0)) ∨
    (r.2.2 = 2 ∧ r.1.dead = true ∧ r.2.1.dead = true ∧ d.armed ≠ 0 ∧ ∃ j, m ≤ j ∧ j ≤ rs.length ∧ Sits r.2.1 l.f l.g snap (rs.take j)) := by
  subst hr
  unfold sync
  rw [if_neg (by simp [h.ld])]
  have hs : d.sync = if d.goes then (d.tick.die d.keep, 2) else (d.tick.saved, 0) := by unfold DS.sync; rw [if_neg (by simp [h.dd])]
  obtain ⟨f1, f2⟩ := of_u h
  rw [hs]
  cases hg : d.goes
  · refine .inl ⟨rfl, rfl, ⟨h.ld, h.dd, h.g1, h.g2, h.n, h.sl, h.short, Nat.le_refl _, ?_, ?_, ?_⟩, fun h0 => ?_⟩
    · show d.tick.saved.base l.f = _
      rw [saved_base, List.take_length]; exact f1
    · show [] = _
      rw [List.drop_length]; rfl
    · show d.tick.saved.base (!l.f) = _
      rw [saved_base]; exact f2
    · show d.armed - 1 = 0
      omega
  · refine .inr ⟨rfl, rfl, rfl, goes_true hg, ?_⟩
    show ∃ j, m ≤ j ∧ j ≤ rs.length ∧ Sits (d.tick.die d.keep) l.f l.g snap (rs.take j)
    rw [DS.die_tick]; exact h.crash _
theorem tick_zero {d : DS} (h : d.armed = 0) : d.tick.armed = 0 := by simp [DS.tick, h]
/-- Behind the laying of the new file: it stands there whole and safe; or the power went, and the old one sits there, or the new one. -/
theorem lays_live {l : LS} {d : DS} {snap : List UInt8} {rs : List (List UInt8)} {m : Nat} (h : Live l d snap rs m) {snap' : List UInt8} (hs : snap'.length ≤ 524288) (hg : l.g < 4611686018427387904) {r : DS × Int} (hr : lays d (!l.f) (l.g + 1) snap' = r) :
    (r.2 = 0 ∧ r.1.dead = false ∧ r.1.u = [] ∧ r.1.base l.f = head l.g snap ++ frames rs ∧ r.1.base (!l.f) = head (l.g + 1) snap' ∧ (d.armed = 0 → r.1.armed = 0)) ∨
    (r.2 = 2 ∧ r.1.dead = true ∧ d.armed ≠ 0 ∧ ((∃ j, m ≤ j ∧ j ≤ rs.length ∧ Sits r.1 l.f l.g snap (rs.take j)) ∨ Sits r.1 (!l.f) (l.g + 1) snap' [])) := by
  subst hr
  obtain ⟨f1, f2⟩ := of_u h
  have hg1 := h.g1
  have ha : d.append (DS.fi (!l.f)) (head (l.g + 1) snap') = if d.goes then ((d.tick.lay (!l.f) (head (l.g + 1) snap')).die d.keep, 2) else (d.tick.lay (!l.f) (head (l.g + 1) snap'), 0) := by
    unfold DS.append
    rw [if_neg (by simp [h.dd]), DS.fileNo_of]
    simp only
    rw [if_neg (by rw [DS.size, f2, head_length]; simp; omega)]
  -- what the two files hold when k unsafe bytes are left
  have key : ∀ (e : DS) (k : Nat), e.base l.f = d.base l.f → e.base (!l.f) = [] → e.u = (frames (rs.drop m)).map (l.f, ·) ++ (head (l.g + 1) snap').map (!l.f, ·) →
      (∃ j, m ≤ j ∧ j ≤ rs.length ∧ Sits (e.die k) l.f l.g snap (rs.take j)) ∨ Sits (e.die k) (!l.f) (l.g + 1) snap' [] := by
    intro e k b1 b2 hu
    have hne : (!l.f) ≠ l.f := by cases l.f <;> simp
    have hne' : l.f ≠ (!l.f) := by cases l.f <;> simp
    have o1 : DS.of l.f (e.u.take k) = (frames (rs.drop m)).take k := by
      rw [hu, List.take_append, DS.of_append, ← List.map_take, ← List.map_take, DS.of_map_same, DS.of_map_other _ _ _ hne, List.append_nil]
    have o2 : DS.of (!l.f) (e.u.take k) = (head (l.g + 1) snap').take (k - (frames (rs.drop m)).length) := by
      rw [hu, List.take_append, DS.of_append, ← List.map_take, ← List.map_take, DS.of_map_same, DS.of_map_other _ _ _ hne', List.nil_append, List.length_map]
    have d1 : ∀ q, (e.die k).base q = e.base q ++ DS.of q (e.u.take k) := fun q => by cases q <;> rfl
    have e1 := d1 l.f
    have e2 := d1 (!l.f)
    rw [o1, b1, h.file, List.append_assoc] at e1
    rw [o2, b2, List.nil_append] at e2
    by_cases hk : k - (frames (rs.drop m)).length < (head (l.g + 1) snap').length
    · left
      obtain ⟨j, x, q, a1, a2, a3, a4⟩ := take_frames (rs.drop m) (h.short.drop m) k
      rw [List.length_drop] at a1
      have hle := h.le
      refine ⟨m + j, by omega, by omega, rfl, h.g1, h.g2, h.sl, h.short.take _, ⟨x, q, a2, a3, ?_⟩, by rw [e2, counts_part hk hs]; exact hg1⟩
      rw [e1, a4, ← List.append_assoc (frames _) (frames _), ← frames_append, List.take_add]
    · right
      rw [List.take_of_length_le (by omega)] at e2
      rw [head_length] at hk
      refine ⟨rfl, by omega, by omega, hs, (fun _ h => by cases h), ⟨[], 0, by simp, by simp [frame_length], by rw [e2]; simp [frames]⟩, ?_⟩
      rw [Bool.not_not, e1, counts_head h.g2 h.sl]
      exact Nat.lt_succ_self _
  have hl : (d.tick.lay (!l.f) (head (l.g + 1) snap')).base l.f = d.base l.f ∧ (d.tick.lay (!l.f) (head (l.g + 1) snap')).base (!l.f) = [] ∧ (d.tick.lay (!l.f) (head (l.g + 1) snap')).u = (frames (rs.drop m)).map (l.f, ·) ++ (head (l.g + 1) snap').map (!l.f, ·) := by
    refine ⟨by cases l.f <;> rfl, ?_, ?_⟩
    · rw [← h.other]; cases l.f <;> rfl
    · show d.u ++ _ = _
      rw [h.u]
  obtain ⟨l1, l2, l3⟩ := hl
  unfold lays
  rw [ha]
  cases hgo : d.goes
  · simp only [Bool.false_eq_true, if_false, ne_eq, not_true_eq_false]
    obtain ⟨E, hE⟩ : ∃ E, d.tick.lay (!l.f) (head (l.g + 1) snap') = E := ⟨_, rfl⟩
    rw [hE] at l1 l2 l3 ⊢
    have hEd : E.dead = false := by rw [← hE]; exact h.dd
    have hEa : d.armed = 0 → E.armed = 0 := fun h0 => by rw [← hE]; exact tick_zero h0
    have hsy : E.sync = if E.goes then (E.tick.die E.keep, 2) else (E.tick.saved, 0) := by unfold DS.sync; rw [if_neg (by simp [hEd])]
    have hne : (!l.f) ≠ l.f := by cases l.f <;> simp
    have hne' : l.f ≠ (!l.f) := by cases l.f <;> simp
    have v1 : E.file l.f = head l.g snap ++ frames rs := by
      rw [DS.file, l1, l3, DS.of_append, DS.of_map_same, DS.of_map_other _ _ _ hne, List.append_nil, h.file, List.append_assoc, ← frames_append, List.take_append_drop]
    have v2 : E.file (!l.f) = head (l.g + 1) snap' := by
      rw [DS.file, l2, l3, DS.of_append, DS.of_map_same, DS.of_map_other _ _ _ hne']; rfl
    rw [hsy]
    cases hgo2 : E.goes
    · left
      exact ⟨rfl, hEd, rfl, by show E.tick.saved.base l.f = _; rw [saved_base]; exact v1, by show E.tick.saved.base (!l.f) = _; rw [saved_base]; exact v2, fun h0 => tick_zero (hEa h0)⟩
    · right
      refine ⟨rfl, rfl, fun h0 => goes_true hgo2 (hEa h0), ?_⟩
      simp only [if_true, DS.die_tick]
      exact key E _ l1 l2 l3
  · right
    simp only [if_true]
    rw [if_pos (by decide)]
    exact ⟨rfl, rfl, goes_true hgo, key _ _ l1 l2 l3⟩
/-- A checkpoint. -/
theorem checkpoint_live {l : LS} {d : DS} {snap : List UInt8} {rs : List (List UInt8)} {m : Nat} (h : Live l d snap rs m) (snap' : List UInt8) {r : LS × DS × Int} (hr : checkpoint l d snap' = r) :
    ((r.2.2 = 101 ∨ r.2.2 = 102) ∧ r.1 = l ∧ r.2.1 = d) ∨
    (r.2.2 = 0 ∧ Live r.1 r.2.1 snap' [] 0 ∧ (d.armed = 0 → r.2.1.armed = 0)) ∨
    (r.2.2 = 2 ∧ r.1.dead = true ∧ r.2.1.dead = true ∧ d.armed ≠ 0 ∧ ((∃ j, m ≤ j ∧ j ≤ rs.length ∧ Sits r.2.1 l.f l.g snap (rs.take j)) ∨ Sits r.2.1 (!l.f) (l.g + 1) snap' [])) := by
  subst hr
  unfold checkpoint
  rw [if_neg (by simp [h.ld])]
  by_cases h1 : 524288 < snap'.length
  · rw [if_pos h1]; exact .inl ⟨.inl rfl, rfl, rfl⟩
  by_cases h2 : l.g = 4611686018427387904
  · rw [if_neg h1, if_pos h2]; exact .inl ⟨.inr rfl, rfl, rfl⟩
  have hg2 := h.g2
  have hg1 := h.g1
  rw [if_neg h1, if_neg h2]
  rcases lays_live h (snap' := snap') (by omega) (by omega) rfl with ⟨e0, e1, e2, e3, e4, e5⟩ | ⟨e0, e1, e2, e3⟩
  · rw [if_neg (by rw [e0]; decide)]
    generalize (lays d (!l.f) (l.g + 1) snap').1 = E at e1 e2 e3 e4 e5 ⊢
    rcases cut_cases e2 e1 (f := l.f) (p := 0) (by omega) with ⟨hgo, hc⟩ | ⟨hgo, hc⟩
    · have hc' : E.cut (DS.fi l.f) 0 = (E.tick.short l.f 0, 0) := hc
      rw [hc', if_neg (by simp)]
      obtain ⟨b1, b2, b3, b4, b5⟩ := short_base E.tick l.f 0
      refine .inr (.inl ⟨rfl, ⟨h.ld, by rw [b4]; exact e1, by show 1 ≤ l.g + 1; omega, by show l.g + 1 ≤ _; omega, rfl, by omega, (fun _ h => by cases h), Nat.le_refl _, ?_, ?_, ?_⟩, fun h0 => ?_⟩)
      · show (E.tick.short l.f 0).base (!l.f) = _
        rw [b2, tick_base, e4]; simp [frames]
      · show (E.tick.short l.f 0).u = _
        rw [b3]; exact e2
      · show (E.tick.short l.f 0).base (!!l.f) = _
        rw [Bool.not_not, b1]; rfl
      · show (E.tick.short l.f 0).armed = 0
        rw [b5]; exact tick_zero (e5 h0)
    · have hc' : E.cut (DS.fi l.f) 0 = (E.tick.die E.keep, 2) := hc
      rw [hc', if_pos (by simp)]
      refine .inr (.inr ⟨rfl, rfl, rfl, fun h0 => goes_true hgo (e5 h0), .inr ?_⟩)
      show Sits (E.tick.die E.keep) _ _ _ _
      rw [DS.die_tick]
      refine ⟨rfl, by omega, by omega, by omega, (fun _ h => by cases h), ⟨[], 0, by simp, by simp [frame_length], by rw [die_base e2, e4]; simp [frames]⟩, ?_⟩
      rw [Bool.not_not, die_base e2, e3, counts_head h.g2 h.sl]
      exact Nat.lt_succ_self _
  · rw [if_pos (by rw [e0]; decide)]
    exact .inr (.inr ⟨rfl, rfl, e1, e2, e3⟩)
/-- The power goes between two calls. -/
theorem new_live {r : Option LS × DS × Int} (hr : new {} = r) : ∃ l, r.1 = some l ∧ r.2.2 = 0 ∧ Live l r.2.1 [] [] 0 ∧ r.2.1.armed = 0 := by
  subst hr
  have e : new {} = (some { f := false, g := 1, n := 0, dead := false }, { a := head 1 [], armed := 0 }, 0) := by rfl
  rw [e]
  exact ⟨_, rfl, rfl, ⟨rfl, rfl, by decide, by decide, rfl, by simp, (fun _ h => by cases h), Nat.le_refl _, by simp [DS.base, frames], by simp [frames], rfl⟩, rfl⟩
/-! Room. -/
theorem room_bounds (l : LS) (d : DS) : -1 ≤ room l d ∧ room l d ≤ 65536 := by unfold room; omega
/-- One more byte than there is room for is too much. -/
theorem room_more {l : LS} {d : DS} (hl : l.dead = false) {s : List UInt8} (hr : room l d < 65536) (hs : (s.length : Int) = room l d + 1) : append l d s = (l, d, 102) := by
  unfold append
  have h1 : (s.length : Int) ≤ 65536 := by omega
  have h2 : (1048576 : Int) < d.size l.f + 8 + s.length := by unfold room at hr hs; omega
  rw [if_neg (by simp [hl]), if_neg (by omega), if_pos (by omega)]
theorem long_append {l : LS} {d : DS} (hl : l.dead = false) {s : List UInt8} (hs : 65536 < s.length) : append l d s = (l, d, 101) := by
  unfold append; rw [if_neg (by simp [hl]), if_pos hs]
theorem long_checkpoint {l : LS} {d : DS} (hl : l.dead = false) {s : List UInt8} (hs : 524288 < s.length) : checkpoint l d s = (l, d, 101) := by
  unfold checkpoint; rw [if_neg (by simp [hl]), if_pos hs]
end Wal
end Go.Proofs.YtpjpknndfhablaaGreat
namespace Go.Proofs.YtpjpknndfhablaaGreat
open Go.RowKit
def diskT : List TypeId := [89, 106]
def logT : List TypeId := [89, 106, 148]
theorem keeps_diskT {w w' : World} (h : KeepsOff diskT w w') : KeepsOff logT w w' := h.mono (fun t ht => by simp [diskT] at ht; rcases ht with rfl | rfl <;> simp [logT])
theorem DiskNew.of_below {w0 w1 w : World} {c : Nat} {d : DS} {m : Nat} (h : DiskNew w1 w c d m) (hb : Below w0.heap.size w0 w1) : DiskNew w0 w c d m := by
  obtain ⟨hc, hb1, rb, h, hr⟩ := h
  exact ⟨Nat.le_trans hb.size hc, hb.trans (hb1.mono hb.size), rb, h, fun k hk => Nat.le_trans hb.size (hr k hk)⟩
section
variable {w0 w : World} {c : Nat} {d : DS} {m : Nat} (h : DiskNew w0 w c d m)
include h
theorem arm_newO (n k : Int) (hn : n ≤ 9223372036854775807) (hk : k ≤ 9223372036854775807) : Calls Tryz.prog 28 #[.pointer (some ⟨c, 0, none⟩), .int .i64 n, .int .i64 k] w fun e w' => e = .returned (.int .i64 (d.arm n k).2) ∧ DiskNew w0 w' c (d.arm n k).1 m ∧ KeepsOff diskT w w' := by
  obtain ⟨hc, hb, rb, h, hr⟩ := h
  exact (arm_any c w d m rb n k h hn hk).mono fun e w' ⟨he, h', ht⟩ => ⟨he, .turn hc hb hr h' (Newer.refl _ _) ht, .of_touch h.typed ht⟩
theorem revive_newO : Calls Tryz.prog 32 #[.pointer (some ⟨c, 0, none⟩)] w fun e w' => e = .returned (.tuple #[]) ∧ DiskNew w0 w' c d.revive m ∧ KeepsOff diskT w w' := by
  obtain ⟨hc, hb, rb, h, hr⟩ := h
  exact (revive_any c w d m rb h).mono fun e w' ⟨he, h', ht⟩ => ⟨he, .turn hc hb hr h' (Newer.refl _ _) ht, .of_touch h.typed ht⟩
theorem crash_newO (k : Int) (hk : k ≤ 9223372036854775807) : Calls Tryz.prog 31 #[.pointer (some ⟨c, 0, none⟩), .int .i64 k] w fun e w' => e = .returned (.int .i64 (d.crash k).2) ∧ DiskNew w0 w' c (d.crash k).1 m ∧ KeepsOff diskT w w' ∧ ((d.crash k).1.dead = true → d.dead = false → DiskNew w0 w' c (d.crash k).1 0) := by
  obtain ⟨hc, hb, rb, h, hr⟩ := h
  exact (crash_anyN c w d m rb k h hk).mono fun e w' ⟨he, rb', h', hn, ht, hz⟩ => ⟨he, .turn hc hb hr h' hn ht, .of_touch h.typed ht, fun h1 h2 => by
    have h3 := hz h1 h2
    subst h3
    exact .turn hc hb hr h'.fresh hn ht⟩
end
/-- In w a log in block x over the disk in block c, both made since w0. -/
structure One (w0 w : World) (x c : Nat) (l : Wal.LS) (d : DS) (m : Nat) : Prop where
  x0 : w0.heap.size ≤ x
  log : LogAt w x c l
  disk : DiskNew w0 w c d m
theorem One.below {w0 w w' : World} {x c : Nat} {l : Wal.LS} {d : DS} {m : Nat} (h : One w0 w x c l d m) (hb : Below w.heap.size w w') : One w0 w' x c l d m := ⟨h.x0, h.log.below hb, h.disk.below hb⟩
theorem One.mono {w0 w : World} {x c : Nat} {l : Wal.LS} {d : DS} {m n : Nat} (h : One w0 w x c l d m) (hmn : m ≤ n) : One w0 w x c l d n := ⟨h.x0, h.log, h.disk.mono hmn⟩
/-- What a piece of work leaves of it. -/
def OneLeft (w0 w : World) (x c : Nat) (l' : Wal.LS) (d d' : DS) (m' : Nat) (w' : World) : Prop :=
  One w0 w' x c l' d' m' ∧ KeepsOff logT w w' ∧ (d'.dead = true → d.dead = false → DiskNew w0 w' c d' 0)
theorem One.left {w0 w w' : World} {x c : Nat} {l l' : Wal.LS} {d d' : DS} {m m' : Nat} {rb : Option Nat} (x0 : w0.heap.size ≤ x) (hl : LogAt w x c l) (hc : w0.heap.size ≤ c) (hb : Below w0.heap.size w0 w) (hd : DiskAt w c d m rb) (hr : ∀ k, rb = some k → w0.heap.size ≤ k)
    (hw : Worked x c l' d d' m' rb w w') : OneLeft w0 w x c l' d d' m' w' := by
  obtain ⟨rb', h1, h2, h3⟩ := hw.disk
  have hold : Below w0.heap.size w0 w' := hb.trans (hw.touch.below hb.size fun k hk ho => by
    rcases ho with (rfl | ho) | rfl
    · omega
    · have := hr k ho; omega
    · omega)
  have hr' : ∀ k, rb' = some k → w0.heap.size ≤ k := fun k hk => (h2 k hk).elim (hr k) (Nat.le_trans hb.size)
  refine ⟨⟨x0, hw.log, hc, hold, rb', h1, hr'⟩, .of_touch (hl.typed3 hd) hw.touch, fun a b => ?_⟩
  have h4 := h3 a b
  subst h4
  exact ⟨hc, hold, none, h1.fresh, fun k hk => by cases hk⟩
section
variable {w0 w : World} {x c : Nat} {l : Wal.LS} {d : DS} {m : Nat} (h : One w0 w x c l d m)
include h
theorem append_one (s : List UInt8) (hm : m < 5000000000000) (hs : s.length ≤ 140737488355328) (hln : l.n ≤ 4611686018427387904) :
    Calls Tryz.prog 69 #[.pointer (some ⟨x, 0, none⟩), .string ⟨s.toArray⟩] w fun e w' => e = .returned (.int .i64 (Wal.append l d s).2.2) ∧ OneLeft w0 w x c (Wal.append l d s).1 d (Wal.append l d s).2.1 (m + 1) w' := by
  obtain ⟨x0, hl, hc, hb, rb, hd, hr⟩ := h
  exact (wappend_any x c w l d m rb s hl hd hm hs hln).mono fun e w' ⟨he, hw⟩ => ⟨he, One.left x0 hl hc hb hd hr hw⟩
theorem sync_one : Calls Tryz.prog 84 #[.pointer (some ⟨x, 0, none⟩)] w fun e w' => e = .returned (.int .i64 (Wal.sync l d).2.2) ∧ OneLeft w0 w x c (Wal.sync l d).1 d (Wal.sync l d).2.1 m w' := by
  obtain ⟨x0, hl, hc, hb, rb, hd, hr⟩ := h
  exact (wsync_any x c w l d m rb hl hd).mono fun e w' ⟨he, hw⟩ => ⟨he, One.left x0 hl hc hb hd hr hw⟩
theorem check_one (s : List UInt8) (hm : m < 5000000000000) (hs : s.length ≤ 140737488355328) (hlg : l.g ≤ 4611686018427387904) :
    Calls Tryz.prog 116 #[.pointer (some ⟨x, 0, none⟩), .string ⟨s.toArray⟩] w fun e w' => e = .returned (.int .i64 (Wal.checkpoint l d s).2.2) ∧ OneLeft w0 w x c (Wal.checkpoint l d s).1 d (Wal.checkpoint l d s).2.1 (m + 1) w' := by
  obtain ⟨x0, hl, hc, hb, rb, hd, hr⟩ := h
  exact (wcheck_any x c w l d m rb s hl hd hm hs hlg).mono fun e w' ⟨he, hw⟩ => ⟨he, One.left x0 hl hc hb hd hr hw⟩
theorem room_one : Calls Tryz.prog 67 #[.pointer (some ⟨x, 0, none⟩)] w fun e w' => e = .returned (.int .i64 (Wal.room l d)) ∧ One w0 w' x c l d m ∧ Below w.heap.size w w' := by
  have h0 := h
  obtain ⟨x0, hl, hc, hb, rb, hd, hr⟩ := h
  exact (room_any x c w l d m rb hl hd).mono fun e w' ⟨he, hb'⟩ => ⟨he, h0.below hb', hb'⟩
end
/-- How Open ends on a disk that the call itself made. -/
def OpenLeft (w0 w : World) (c : Nat) (o : Option Wal.Opened) (d d' : DS) (m : Nat) (r : Int) (e : Ending) (w' : World) : Prop :=
  ∃ v s rv, e = .returned (.tuple #[v, .string s, rv, .int .i64 r]) ∧
    (∀ q, o = some q → s = ⟨q.snap.toArray⟩ ∧ RecsAt w' w.heap.size rv q.rs ∧ ∃ x, v = .pointer (some ⟨x, 0, none⟩) ∧ w.heap.size ≤ x ∧ One w0 w' x c q.l d' m) ∧ (o = none → v = .pointer none ∧ s = ⟨#[]⟩ ∧ rv = .slice none 0 0) ∧
    DiskNew w0 w' c d' m ∧ KeepsOff diskT w w' ∧ (d'.dead = true → d.dead = false → DiskNew w0 w' c d' 0)
theorem open_one {w0 w : World} {c : Nat} {d : DS} {m : Nat} (h : DiskNew w0 w c d m) :
    Calls Tryz.prog 47 #[.pointer (some ⟨c, 0, none⟩)] w (OpenLeft w0 w c (Wal.open_ d).1 d (Wal.open_ d).2.1 m (Wal.open_ d).2.2) := by
  obtain ⟨hc, hb, rb, hd, hr⟩ := h
  refine (wopen_any c w d m rb hd).mono fun e w' ⟨v, s, rv, he, h1, h2, rb', h3, h4, h5, h6⟩ => ?_
  have hn : DiskNew w0 w' c (Wal.open_ d).2.1 m := .turn hc hb hr h3 h4 h5
  refine ⟨v, s, rv, he, fun q hq => ?_, h2, hn, .of_touch hd.typed h5, fun a b => ?_⟩
  · obtain ⟨a1, a2, x, a3, a4, a5⟩ := h1 q hq
    exact ⟨a1, a2, x, a3, a4, Nat.le_trans hb.size a4, a5, hn⟩
  · have h7 := h6 a b
    subst h7
    exact .turn hc hb hr h3.fresh h4 h5
end Go.Proofs.YtpjpknndfhablaaGreat
namespace Go.Proofs.YtpjpknndfhablaaGreat
open Go.RowKit
/-- The disk alone has turned. -/
theorem Scn.disked {w w' : World} {x lg c mb : Nat} {rb rb' : Option Nat} {s : SS} {d d' : DS} {m m' : Nat} {rows : List TRow} (h : Scn w x lg c mb rb s d m rows) (hd : DiskAt w' c d' m' rb') (hn : Newer w rb rb') (ht : Touch (own2 c rb) w w') :
    Scn w' x lg c mb rb' s d' m' rows ∧ STurn w w' (Foot11 x lg c mb rb rows) (Foot11 x lg c mb rb' rows) := by
  have ht3 : Touch (fun k => own3 c rb lg k ∨ k = x) w w' := ht.mono (fun _ _ e => .inl (.inl e))
  have hx : ¬ own2 c rb x := fun e => (h.store.apart h.disk).1 (.inl e)
  have hl : ¬ own2 c rb lg := h.store.log.apart h.disk
  have hm : ¬ own2 c rb mb := fun e => (h.store.apart h.disk).2.1 (.inl e)
  refine ⟨⟨h.store.touch ht hx hl hm, hd, fun i r hi => ⟨(h.txs i r hi).1.worked h.store h.disk ht3, (h.txs i r hi).2⟩, h.apart⟩, ht.mono (fun _ _ e => .inl (.inl e)), fun k hk => ?_⟩
  rcases hk with ((rfl | hk) | rfl) | hk
  · exact .inl (.inl (.inl (.inl rfl)))
  · rcases hn k hk with e | e
    · exact .inl (.inl (.inl (.inr e)))
    · exact .inr e
  · exact .inl (.inl (.inr rfl))
  · exact .inl (.inr hk)
section
variable {w : World} {F : Nat → Prop} {x c : Nat} {s : SS} {d : DS} {m : Nat} {ts : List (Nat × TS)} (h : Sc w F x c s d m ts)
include h
theorem arm_sc (n k : Int) (hn : n ≤ 9223372036854775807) (hk : k ≤ 9223372036854775807) : Calls Tryz.prog 28 #[.pointer (some ⟨c, 0, none⟩), .int .i64 n, .int .i64 k] w fun e w' => e = .returned (.int .i64 (d.arm n k).2) ∧ ∃ F', Sc w' F' x c s (d.arm n k).1 m ts ∧ STurn w w' F F' := by
  obtain ⟨lg, mb, rb, rows, rfl, h2, h3⟩ := h
  refine (arm_any c w d m rb n k h2.disk hn hk).mono ?_
  rintro e w' ⟨he, h', ht⟩
  obtain ⟨a, b⟩ := h2.disked h' (Newer.refl _ _) ht
  exact ⟨he, _, ⟨lg, mb, rb, rows, rfl, a, h3⟩, b⟩
theorem revive_sc : Calls Tryz.prog 32 #[.pointer (some ⟨c, 0, none⟩)] w fun e w' => e = .returned (.tuple #[]) ∧ ∃ F', Sc w' F' x c s d.revive m ts ∧ STurn w w' F F' := by
  obtain ⟨lg, mb, rb, rows, rfl, h2, h3⟩ := h
  refine (revive_any c w d m rb h2.disk).mono ?_
  rintro e w' ⟨he, h', ht⟩
  obtain ⟨a, b⟩ := h2.disked h' (Newer.refl _ _) ht
  exact ⟨he, _, ⟨lg, mb, rb, rows, rfl, a, h3⟩, b⟩
theorem crash_sc (k : Int) (hk : k ≤ 9223372036854775807) : Calls Tryz.prog 31 #[.pointer (some ⟨c, 0, none⟩), .int .i64 k] w fun e w' => e = .returned (.int .i64 (d.crash k).2) ∧ ∃ F', Sc w' F' x c s (d.crash k).1 m ts ∧ STurn w w' F F' ∧ ((d.crash k).1.dead = true → d.dead = false → Sc w' F' x c s (d.crash k).1 0 ts) := by
  obtain ⟨lg, mb, rb, rows, rfl, h2, h3⟩ := h
  refine (crash_anyN c w d m rb k h2.disk hk).mono ?_
  rintro e w' ⟨he, rb', h', hn, ht, hz⟩
  obtain ⟨a, b⟩ := h2.disked h' hn ht
  refine ⟨he, _, ⟨lg, mb, rb', rows, rfl, a, h3⟩, b, fun e1 e2 => ?_⟩
  obtain rfl := hz e1 e2
  exact ⟨lg, mb, none, rows, rfl, ⟨a.store, a.disk.fresh, a.txs, a.apart⟩, h3⟩
end
end Go.Proofs.YtpjpknndfhablaaGreat
namespace Go.Proofs.YtpjpknndfhablaaGreat
theorem Sto.does_changes {a b : Sto.Pairs} (ha : Sto.Rise a) (hb : Sto.Rise b) : Sto.does a (Sto.changes a b) = if Sto.fits b then some b else none := by
  unfold Sto.does
  rw [Sto.steps_changes' ha hb]
  rfl
theorem Sto.changes_same {a b : Sto.Pairs} (ha : Sto.Rise a) (hb : Sto.Rise b) (h : Sto.changes a b = []) : a = b := by
  have := Sto.steps_changes' ha hb
  rw [h] at this
  exact Option.some.inj this
namespace SS
theorem check_ps (s : SS) (d : DS) : (s.check d).1.ps = s.ps ∧ (s.check d).1.turn = s.turn := by
  unfold SS.check
  split <;> exact ⟨rfl, rfl⟩
theorem making_ps (s : SS) (d : DS) (r : List UInt8) : (s.making d r).1.ps = s.ps ∧ (s.making d r).1.turn = s.turn := by
  unfold SS.making
  split
  · exact check_ps s d
  · exact ⟨rfl, rfl⟩
theorem making_lives {s : SS} {d : DS} {r : List UInt8} (hd : s.dead = false) (h : (s.making d r).2.2 = 0) : (s.making d r).1.dead = false := by
  unfold SS.making at h ⊢
  split
  · rename_i h1
    rw [if_pos h1] at h
    unfold SS.check at h ⊢
    rw [if_neg (by rw [hd]; exact Bool.false_ne_true)] at h ⊢
    show decide _ = false
    rw [h]
    rfl
  · exact hd
theorem adding_cases (s : SS) (d : DS) (r : List UInt8) (m : Sto.Pairs) : ((s.adding d r m).2.2 ≠ 0 ∧ (s.adding d r m).1.ps = s.ps ∧ (s.adding d r m).1.turn = s.turn) ∨ ((s.adding d r m).2.2 = 0 ∧ (s.adding d r m).1.ps = m ∧ (s.adding d r m).1.turn = s.turn + 1 ∧ (s.adding d r m).1.dead = s.dead) := by
  unfold SS.adding
  split
  · rename_i h; exact .inl ⟨h, rfl, rfl⟩
  · exact .inr ⟨rfl, rfl, rfl, rfl⟩
theorem taking_cases (s : SS) (d : DS) (c : List Sto.Ch) (m : Sto.Pairs) (hd : s.dead = false) : ((s.taking d c m).2.2 ≠ 0 ∧ (s.taking d c m).1.ps = s.ps ∧ (s.taking d c m).1.turn = s.turn) ∨ ((s.taking d c m).2.2 = 0 ∧ (s.taking d c m).1.ps = m ∧ (s.taking d c m).1.turn = s.turn + 1 ∧ (s.taking d c m).1.dead = false) := by
  obtain ⟨h1, h2⟩ := making_ps s d (Sto.encode c 2)
  unfold SS.taking
  split
  · rename_i h; exact .inl ⟨h, h1, h2⟩
  · rename_i h
    have hl := making_lives hd (Classical.not_not.1 h)
    rcases adding_cases (s.making d (Sto.encode c 2)).1 (s.making d (Sto.encode c 2)).2.1 (Sto.encode c 2) m with ⟨a, b, e⟩ | ⟨a, b, e, f⟩
    · exact .inl ⟨a, b.trans h1, e.trans h2⟩
    · exact .inr ⟨a, b, by rw [e, h2], f.trans hl⟩
/-- Behind a commit the pairs are what they were, or what the transaction saw. -/
theorem commit_cases (s : SS) (t : TS) (d : DS) : ((s.commit t d).2.2 ≠ 0 ∧ (s.commit t d).1.ps = s.ps ∧ (s.commit t d).1.turn = s.turn) ∨
    ((s.commit t d).2.2 = 0 ∧ s.turn = t.turn ∧ t.over = false ∧ s.dead = false ∧ Sto.changes t.was t.now = [] ∧ s.commit t d = (s, d, 0)) ∨
    ((s.commit t d).2.2 = 0 ∧ s.turn = t.turn ∧ t.over = false ∧ s.dead = false ∧ Sto.does s.ps (Sto.changes t.was t.now) = some (s.commit t d).1.ps ∧ (s.commit t d).1.turn = s.turn + 1 ∧ (s.commit t d).1.dead = false) := by
  unfold SS.commit
  split
  · exact .inl ⟨(fun e => by cases e), rfl, rfl⟩
  · rename_i h1
    split
    · exact .inl ⟨(fun e => by cases e), rfl, rfl⟩
    · rename_i h2
      split
      · exact .inl ⟨(fun e => by cases e), rfl, rfl⟩
      · rename_i h3
        have h3' := Classical.not_not.1 h3
        have h1' : t.over = false := by cases ho : t.over; rfl; exact absurd ho h1
        have h2' : s.dead = false := by cases ho : s.dead; rfl; exact absurd ho h2
        split
        · rename_i h4
          exact .inr (.inl ⟨rfl, h3', h1', h2', h4, rfl⟩)
        · split
          · exact .inl ⟨(fun e => by cases e), rfl, rfl⟩
          · cases hdo : Sto.does s.ps (Sto.changes t.was t.now) with
            | none => exact .inl ⟨(fun e => by cases e), rfl, rfl⟩
            | some m =>
              rcases taking_cases s d (Sto.changes t.was t.now) m h2' with ⟨a, b, e⟩ | ⟨a, b, e, f⟩
              · exact .inl ⟨a, b, e⟩
              · exact .inr (.inr ⟨a, h3', h1', h2', by show some m = some _; rw [b], e, f⟩)
/-- .. of a transaction that began at these very pairs. -/
theorem commit_now {s : SS} {t : TS} {d : DS} (hw : t.was = s.ps) (h1 : Sto.Rise s.ps) (h2 : Sto.Rise t.now) (he : (s.commit t d).2.2 = 0) : (s.commit t d).1.ps = t.now := by
  rcases commit_cases s t d with ⟨a, _⟩ | ⟨_, _, _, _, a, b⟩ | ⟨_, _, _, _, a, _⟩
  · exact absurd he a
  · rw [b]
    exact (Sto.changes_same (by rw [hw]; exact h1) h2 a) ▸ hw.symm
  · rw [hw, Sto.does_changes h1 h2] at a
    split at a
    · exact (Option.some.inj a).symm
    · cases a
theorem commit_same {s : SS} {t : TS} {d : DS} (he : (s.commit t d).2.2 ≠ 0) : (s.commit t d).1.ps = s.ps := by
  rcases commit_cases s t d with ⟨_, a, _⟩ | ⟨a, _⟩ | ⟨a, _⟩
  · exact a
  · exact absurd a he
  · exact absurd a he
theorem commit_turn {s : SS} {t : TS} {d : DS} (ht : (s.commit t d).1.turn = s.turn) : (s.commit t d).1.ps = s.ps := by
  rcases commit_cases s t d with ⟨_, a, _⟩ | ⟨_, _, _, _, _, b⟩ | ⟨_, _, _, _, _, b, _⟩
  · exact a
  · rw [b]
  · omega
/-- Of two that overlap the second one that has changes is refused. -/
theorem commit_two {s : SS} {t u : TS} {d e : DS} (hw : t.was = s.ps) (h1 : Sto.Rise s.ps) (h2 : Sto.Rise t.now) (hu : u.turn = s.turn) (huo : u.over = false) (he : (s.commit t d).2.2 = 0) (hn : t.now ≠ s.ps) : ((s.commit t d).1.commit u e).2.2 = 114 := by
  rcases commit_cases s t d with ⟨a, _⟩ | ⟨_, _, _, _, a, b⟩ | ⟨_, _, _, _, _, b, c⟩
  · exact absurd he a
  · exact absurd (hw.symm.trans (Sto.changes_same (by rw [hw]; exact h1) h2 a)).symm hn
  · unfold SS.commit
    rw [if_neg (by rw [huo]; exact Bool.false_ne_true)]
    have hc : (s.commit t d).1.dead = false := c
    have hb : (s.commit t d).1.turn ≠ u.turn := by rw [hu]; omega
    unfold SS.commit at hc hb
    rw [if_neg (by rw [hc]; exact Bool.false_ne_true), if_pos hb]
end SS
end Go.Proofs.YtpjpknndfhablaaGreat
namespace Go.Proofs.YtpjpknndfhablaaGreat
namespace Wal
theorem Live.clean {l : LS} {d : DS} {snap : List UInt8} {rs : List (List UInt8)} (h : Live l d snap rs rs.length) : Clean d l.f l.g snap rs :=
  ⟨by rw [h.u]; simp [frames], h.g1, h.g2, h.sl, h.short, by rw [h.file, List.take_length], h.other⟩
def q0 : LS := { f := false, g := 1, n := 0, dead := false }
def e0 : DS := { a := head 1 [], armed := 0 }
theorem new_q : new {} = (some q0, e0, 0) := by rfl
def q1 : LS := (append q0 e0 [97]).1
def e1 : DS := (append q0 e0 [97]).2.1
def e2 : DS := (sync q1 e1).2.1
def q3 : LS := ((open_ e2).1.map (·.l)).getD {}
def e3 : DS := (open_ e2).2.1
def q4 : LS := ((open_ e3).1.map (·.l)).getD {}
def e4 : DS := (open_ e3).2.1
def q5 : LS := (checkpoint q4 e4 [115]).1
def e5 : DS := (checkpoint q4 e4 [115]).2.1
def e6 : DS := (open_ e5).2.1
def q6 : LS := ((open_ e5).1.map (·.l)).getD {}
theorem live0 : Live q0 e0 [] [] 0 ∧ e0.armed = 0 := by
  obtain ⟨l, h1, _, h2, h3⟩ := new_live new_q
  cases h1
  exact ⟨h2, h3⟩
theorem append_q : append q0 e0 [97] = (q1, e1, 0) ∧ Live q1 e1 [] [[97]] 0 ∧ e1.armed = 0 := by
  rcases append_live live0.1 [97] rfl with ⟨h, _⟩ | ⟨h1, h2, h3⟩ | ⟨_, _, _, h, _⟩
  · exfalso
    have : (append q0 e0 [97]).2.2 = 0 := by decide +kernel
    rw [this] at h
    omega
  · exact ⟨Prod.ext rfl (Prod.ext rfl h1), h2, h3 live0.2⟩
  · exact absurd live0.2 h
theorem room_q : room q1 e1 = 65536 ∧ q1.n = 1 := by decide +kernel
theorem sync_q : sync q1 e1 = (q1, e2, 0) ∧ Clean e2 q1.f q1.g [] [[97]] ∧ e2.armed = 0 ∧ e2.dead = false := by
  rcases sync_live append_q.2.1 rfl with ⟨h1, h2, h3, h4⟩ | ⟨_, _, _, h, _⟩
  · exact ⟨Prod.ext h2 (Prod.ext rfl h1), h3.clean, h4 append_q.2.2, h3.dd⟩
  · exact absurd append_q.2.2 h
theorem open_clean {d : DS} {f : Bool} {g : Nat} {snap : List UInt8} {rs : List (List UInt8)} (h : Clean d f g snap rs) (hd : d.dead = false) (ha : d.armed = 0) :
    open_ d = (some ⟨{ f := f, g := g, n := rs.length, dead := false }, snap, rs⟩, (open_ d).2.1, 0) ∧ Clean (open_ d).2.1 f g snap rs ∧ (open_ d).2.1.armed = 0 ∧ (open_ d).2.1.dead = false := by
  rcases open_sits h.sits hd rfl with ⟨_, _, _, _, h0⟩ | ⟨h1, h2, h3, h4, h5⟩
  · exact absurd ha h0
  · exact ⟨Prod.ext h1 (Prod.ext rfl h2), h4, h5 ha, h3⟩
theorem open_q : open_ e2 = (some ⟨q3, [], [[97]]⟩, e3, 0) ∧ Clean e3 q1.f q1.g [] [[97]] ∧ e3.armed = 0 ∧ e3.dead = false := by
  obtain ⟨h1, h2, h3, h4⟩ := open_clean sync_q.2.1 sync_q.2.2.2 sync_q.2.2.1
  refine ⟨?_, h2, h3, h4⟩
  rw [h1]
  have : q3 = { f := q1.f, g := q1.g, n := [([97] : List UInt8)].length, dead := false } := by unfold q3; rw [h1]; rfl
  rw [this]; rfl
theorem size_q : e3.size false = 29 := by decide +kernel
theorem open_q2 : open_ e3 = (some ⟨q4, [], [[97]]⟩, e4, 0) ∧ Live q4 e4 [] [[97]] 1 ∧ e4.armed = 0 := by
  obtain ⟨h1, h2, h3, h4⟩ := open_clean open_q.2.1 open_q.2.2.2 open_q.2.2.1
  have : q4 = { f := q1.f, g := q1.g, n := [([97] : List UInt8)].length, dead := false } := by unfold q4; rw [h1]; rfl
  refine ⟨?_, ?_, h3⟩
  · rw [h1, this]; rfl
  · rw [this]; exact h2.live h4
theorem check_q : checkpoint q4 e4 [115] = (q5, e5, 0) ∧ Live q5 e5 [115] [] 0 ∧ e5.armed = 0 := by
  rcases checkpoint_live open_q2.2.1 [115] rfl with ⟨h, _⟩ | ⟨h1, h2, h3⟩ | ⟨_, _, _, h, _⟩
  · exfalso
    have : (checkpoint q4 e4 [115]).2.2 = 0 := by decide +kernel
    rw [this] at h
    omega
  · exact ⟨Prod.ext rfl (Prod.ext rfl h1), h2, h3 open_q2.2.2⟩
  · exact absurd open_q2.2.2 h
theorem size_q5 : e5.size false = 0 ∧ e5.size true = 21 := by decide +kernel
theorem long_q {s : List UInt8} (hs : 65536 < s.length) : append q5 e5 s = (q5, e5, 101) := long_append check_q.2.1.ld hs
theorem open_q3 : open_ e5 = (some ⟨q6, [115], []⟩, e6, 0) := by
  obtain ⟨h1, h2, h3, h4⟩ := open_clean (check_q.2.1.clean) check_q.2.1.dd check_q.2.2
  have : q6 = { f := q5.f, g := q5.g, n := ([] : List (List UInt8)).length, dead := false } := by unfold q6; rw [h1]; rfl
  rw [h1, this]; rfl
theorem crc_q : crc [49, 50, 51, 52, 53, 54, 55, 56, 57] = 3421780262 := by decide +kernel
end Wal
end Go.Proofs.YtpjpknndfhablaaGreat
namespace Go.Proofs.YtpjpknndfhablaaGreat
namespace SS
/-- A snapshot says the pairs that it was made of. -/
theorem snap_image {ps : Sto.Pairs} (hg : Sto.Good ps) (hf : Sto.fits ps = true) : SS.snapPairs (Sto.image ps) = some ps := by
  by_cases h0 : ps = []
  · subst h0
    rfl
  · obtain ⟨h1, h2, h3⟩ := Sto.image_read h0 hg hf
    unfold SS.snapPairs
    rw [if_neg h3, h1]
    show (if (Sto.changes [] ps).all (·.put) then Sto.does [] (Sto.changes [] ps) else none) = some ps
    have ha : (Sto.changes [] ps).all (·.put) = true := by
      rw [Sto.changes_nil, List.all_eq_true]
      intro c hc
      obtain ⟨p, _, rfl⟩ := List.mem_map.1 hc
      rfl
    rw [if_pos ha, h2]
/-- A record says the changes that it was made of. -/
theorem rec1_encode {a b m : Sto.Pairs} (ha : Sto.Good a) (hb : Sto.Good b) (h0 : Sto.changes a b ≠ []) (hl : (Sto.changes a b).length ≤ 512) (hd : Sto.does a (Sto.changes a b) = some m) : SS.rec1 a (Sto.encode (Sto.changes a b) 2) = some m := by
  unfold SS.rec1
  rw [Sto.decode_encode h0 (by have : (256 : Nat) ^ 2 = 65536 := rfl; omega) hl (Sto.changes_fine ha hb) (Sto.changes_rise a b ha.rise hb.rise)]
  exact hd
/-- On a disk without unsafe bytes one of these rows of pairs stands. -/
def SitsP (d : DS) (may : List Sto.Pairs) (G : Nat) : Prop := ∃ f g snap rs p0 q, g ≤ G ∧ Wal.Sits d f g snap rs ∧ SS.snapPairs snap = some p0 ∧ SS.replay p0 rs = some q ∧ q ∈ may
/-- An open store, and what may be there behind a crash. -/
structure Held (s : SS) (d : DS) (may : List Sto.Pairs) : Prop where
  live : s.dead = false
  good : Sto.Good s.ps
  fits : Sto.fits s.ps = true
  log : ∃ snap rs m p0, Wal.Live s.l d snap rs m ∧ SS.snapPairs snap = some p0 ∧ SS.replay p0 rs = some s.ps ∧ ∀ j, m ≤ j → j ≤ rs.length → ∃ q, SS.replay p0 (rs.take j) = some q ∧ q ∈ may
theorem Held.crash {s : SS} {d : DS} {may : List Sto.Pairs} (h : Held s d may) (k : Nat) : SitsP (d.die k) may s.l.g := by
  obtain ⟨snap, rs, m, p0, h1, h2, _, h4⟩ := h.log
  obtain ⟨j, a, b, c⟩ := h1.crash k
  obtain ⟨q, e, f⟩ := h4 j a b
  exact ⟨_, _, _, _, p0, q, Nat.le_refl _, c, h2, e, f⟩
theorem Held.sync {s : SS} {d : DS} {may : List Sto.Pairs} (h : Held s d may) :
    ((s.sync d).2.2 = 0 ∧ (s.sync d).1.ps = s.ps ∧ Held (s.sync d).1 (s.sync d).2.1 [s.ps] ∧ (d.armed = 0 → (s.sync d).2.1.armed = 0)) ∨ ((s.sync d).2.2 = 2 ∧ (s.sync d).1.dead = true ∧ (s.sync d).2.1.dead = true ∧ d.armed ≠ 0 ∧ SitsP (s.sync d).2.1 may s.l.g) := by
  obtain ⟨snap, rs, m, p0, h1, h2, h3, h4⟩ := h.log
  have e : s.sync d = ({ s with l := (Wal.sync s.l d).1, dead := decide ((Wal.sync s.l d).2.2 = 2) }, (Wal.sync s.l d).2.1, (Wal.sync s.l d).2.2) := by unfold SS.sync; rw [if_neg (by rw [h.live]; exact Bool.false_ne_true)]
  rw [e]
  rcases Wal.sync_live h1 rfl with ⟨a, b, c, k⟩ | ⟨a, _, c, f, j, g1, g2, g3⟩
  · refine .inl ⟨a, rfl, ⟨by show decide _ = false; rw [a]; rfl, h.good, h.fits, snap, rs, rs.length, p0, by rw [show ({ s with l := (Wal.sync s.l d).1, dead := decide ((Wal.sync s.l d).2.2 = 2) } : SS).l = (Wal.sync s.l d).1 from rfl, b]; exact c, h2, h3, fun j hj hj' => ?_⟩, k⟩
    obtain rfl : j = rs.length := by omega
    exact ⟨s.ps, by rw [List.take_length]; exact h3, by simp⟩
  · obtain ⟨q, e1, e2⟩ := h4 j g1 g2
    exact .inr ⟨a, by show decide _ = true; rw [a]; rfl, c, f, _, _, _, _, p0, q, Nat.le_refl _, g3, h2, e1, e2⟩
theorem Held.check {s : SS} {d : DS} {may : List Sto.Pairs} (h : Held s d may) :
    ((s.check d).2.2 = 0 ∧ (s.check d).1.ps = s.ps ∧ Held (s.check d).1 (s.check d).2.1 [s.ps] ∧ (d.armed = 0 → (s.check d).2.1.armed = 0)) ∨ (((s.check d).2.2 = 101 ∨ (s.check d).2.2 = 102) ∧ (s.check d).1.ps = s.ps ∧ Held (s.check d).1 (s.check d).2.1 may ∧ (d.armed = 0 → (s.check d).2.1.armed = 0)) ∨
    ((s.check d).2.2 = 2 ∧ (s.check d).1.dead = true ∧ (s.check d).2.1.dead = true ∧ d.armed ≠ 0 ∧ SitsP (s.check d).2.1 (s.ps :: may) (s.l.g + 1)) := by
  obtain ⟨snap, rs, m, p0, h1, h2, h3, h4⟩ := h.log
  have e : s.check d = ({ s with l := (Wal.checkpoint s.l d (Sto.image s.ps)).1, dead := decide ((Wal.checkpoint s.l d (Sto.image s.ps)).2.2 = 2) }, (Wal.checkpoint s.l d (Sto.image s.ps)).2.1, (Wal.checkpoint s.l d (Sto.image s.ps)).2.2) := by unfold SS.check; rw [if_neg (by rw [h.live]; exact Bool.false_ne_true)]
  rw [e]
  have hsn := snap_image h.good h.fits
  rcases Wal.checkpoint_live h1 (Sto.image s.ps) rfl with ⟨a, b, c⟩ | ⟨a, b, k⟩ | ⟨a, _, c, f, g⟩
  · refine .inr (.inl ⟨a, rfl, ⟨?_, h.good, h.fits, snap, rs, m, p0, ?_, h2, h3, h4⟩, fun z => by rw [c]; exact z⟩)
    · show decide _ = false
      exact decide_eq_false (by omega)
    · show Wal.Live (Wal.checkpoint s.l d (Sto.image s.ps)).1 (Wal.checkpoint s.l d (Sto.image s.ps)).2.1 snap rs m
      rw [b, c]; exact h1
  · refine .inl ⟨a, rfl, ⟨by show decide _ = false; rw [a]; rfl, h.good, h.fits, Sto.image s.ps, [], 0, s.ps, b, hsn, rfl, fun j _ hj => ⟨s.ps, ?_, by simp⟩⟩, k⟩
    obtain rfl : j = 0 := by simpa using hj
    rfl
  · refine .inr (.inr ⟨a, by show decide _ = true; rw [a]; rfl, c, f, ?_⟩)
    rcases g with ⟨j, g1, g2, g3⟩ | g
    · obtain ⟨q, e1, e2⟩ := h4 j g1 g2
      exact ⟨_, _, _, _, p0, q, Nat.le_succ _, g3, h2, e1, List.mem_cons_of_mem _ e2⟩
    · exact ⟨_, _, _, [], s.ps, s.ps, Nat.le_refl _, g, hsn, rfl, List.mem_cons_self ..⟩
theorem Held.add {s : SS} {d : DS} {may : List Sto.Pairs} (h : Held s d may) {E : List UInt8} {now : Sto.Pairs} (hr : SS.rec1 s.ps E = some now) :
    ((s.adding d E now).2.2 = 0 ∧ (s.adding d E now).1.ps = now ∧ Held (s.adding d E now).1 (s.adding d E now).2.1 (now :: may) ∧ (d.armed = 0 → (s.adding d E now).2.1.armed = 0)) ∨
    (((s.adding d E now).2.2 = 101 ∨ (s.adding d E now).2.2 = 102) ∧ (s.adding d E now).1.ps = s.ps ∧ Held (s.adding d E now).1 (s.adding d E now).2.1 may ∧ (d.armed = 0 → (s.adding d E now).2.1.armed = 0)) ∨
    ((s.adding d E now).2.2 = 2 ∧ (s.adding d E now).1.dead = true ∧ (s.adding d E now).2.1.dead = true ∧ d.armed ≠ 0 ∧ SitsP (s.adding d E now).2.1 (now :: may) s.l.g) := by
  obtain ⟨snap, rs, m, p0, h1, h2, h3, h4⟩ := h.log
  have hnew : SS.replay p0 (rs ++ [E]) = some now := by rw [replay_snoc, h3]; exact hr
  have hall : ∀ j, m ≤ j → j ≤ rs.length + 1 → ∃ q, SS.replay p0 ((rs ++ [E]).take j) = some q ∧ q ∈ now :: may := fun j a b => by
    by_cases hj : j ≤ rs.length
    · obtain ⟨q, e1, e2⟩ := h4 j a hj
      exact ⟨q, by rw [List.take_append_of_le_length hj]; exact e1, List.mem_cons_of_mem _ e2⟩
    · obtain rfl : j = rs.length + 1 := by omega
      exact ⟨now, by rw [List.take_of_length_le (by simp)]; exact hnew, List.mem_cons_self ..⟩
  have hgood := rec1_good h.good hr
  rcases Wal.append_live h1 E rfl with ⟨a, b, c⟩ | ⟨a, b, k⟩ | ⟨a, _, c, f, j, g1, g2, g3⟩
  · have e : s.adding d E now = ({ s with l := (Wal.append s.l d E).1, dead := decide ((Wal.append s.l d E).2.2 = 2) }, (Wal.append s.l d E).2.1, (Wal.append s.l d E).2.2) := by unfold SS.adding; rw [if_pos (by omega)]
    rw [e]
    refine .inr (.inl ⟨a, rfl, ⟨decide_eq_false (by omega), h.good, h.fits, snap, rs, m, p0, ?_, h2, h3, h4⟩, fun z => by rw [c]; exact z⟩)
    show Wal.Live (Wal.append s.l d E).1 (Wal.append s.l d E).2.1 snap rs m
    rw [b, c]; exact h1
  · have e : s.adding d E now = ({ s with l := (Wal.append s.l d E).1, ps := now, turn := s.turn + 1 }, (Wal.append s.l d E).2.1, 0) := by unfold SS.adding; rw [if_neg (by rw [a]; exact fun e => e rfl)]
    rw [e]
    exact .inl ⟨rfl, rfl, ⟨h.live, hgood.1, hgood.2, snap, rs ++ [E], m, p0, b, h2, hnew, fun j x y => hall j x (by simpa using y)⟩, k⟩
  · have e : s.adding d E now = ({ s with l := (Wal.append s.l d E).1, dead := decide ((Wal.append s.l d E).2.2 = 2) }, (Wal.append s.l d E).2.1, (Wal.append s.l d E).2.2) := by unfold SS.adding; rw [if_pos (by omega)]
    rw [e]
    obtain ⟨q, e1, e2⟩ := hall j g1 g2
    exact .inr (.inr ⟨a, decide_eq_true a, c, f, _, _, _, _, p0, q, Nat.le_refl _, g3, h2, e1, e2⟩)
theorem Held.more {s : SS} {d : DS} {may may' : List Sto.Pairs} (h : Held s d may) (hm : ∀ q ∈ may, q ∈ may') : Held s d may' := by
  obtain ⟨snap, rs, m, p0, h1, h2, h3, h4⟩ := h.log
  exact ⟨h.live, h.good, h.fits, snap, rs, m, p0, h1, h2, h3, fun j a b => by obtain ⟨q, e1, e2⟩ := h4 j a b; exact ⟨q, e1, hm q e2⟩⟩
theorem SitsP.more {d : DS} {may may' : List Sto.Pairs} {G G' : Nat} (h : SitsP d may G) (hm : ∀ q ∈ may, q ∈ may') (hG : G ≤ G') : SitsP d may' G' := by
  obtain ⟨f, g, snap, rs, p0, q, k, a, b, c, e⟩ := h
  exact ⟨f, g, snap, rs, p0, q, Nat.le_trans k hG, a, b, c, hm q e⟩
/-- Room is made. -/
theorem Held.make {s : SS} {d : DS} {may : List Sto.Pairs} (h : Held s d may) (E : List UInt8) :
    ((s.making d E).2.2 = 0 ∧ (s.making d E).1.ps = s.ps ∧ Held (s.making d E).1 (s.making d E).2.1 (s.ps :: may) ∧ (d.armed = 0 → (s.making d E).2.1.armed = 0)) ∨ (((s.making d E).2.2 = 101 ∨ (s.making d E).2.2 = 102) ∧ (s.making d E).1.ps = s.ps ∧ Held (s.making d E).1 (s.making d E).2.1 (s.ps :: may) ∧ (d.armed = 0 → (s.making d E).2.1.armed = 0)) ∨
    ((s.making d E).2.2 = 2 ∧ (s.making d E).1.dead = true ∧ (s.making d E).2.1.dead = true ∧ d.armed ≠ 0 ∧ SitsP (s.making d E).2.1 (s.ps :: may) (s.l.g + 1)) := by
  unfold SS.making
  split
  · rcases h.check with ⟨a, b, c, k⟩ | ⟨a, b, c, k⟩ | ⟨a, b, c, k, f⟩
    · exact .inl ⟨a, b, c.more (fun q hq => by simp at hq; simp [hq]), k⟩
    · exact .inr (.inl ⟨a, b, c.more (fun q hq => List.mem_cons_of_mem _ hq), k⟩)
    · exact .inr (.inr ⟨a, b, c, k, f⟩)
  · exact .inl ⟨rfl, rfl, h.more (fun q hq => List.mem_cons_of_mem _ hq), id⟩
/-- Behind a commit of a transaction that began at these very pairs. -/
theorem Held.commit {s : SS} {d : DS} {may : List Sto.Pairs} (h : Held s d may) {t : TS} (hw : t.was = s.ps) (hn : Sto.Good t.now) :
    ((s.commit t d).2.2 = 0 ∧ (s.commit t d).1.ps = t.now ∧ Held (s.commit t d).1 (s.commit t d).2.1 (t.now :: s.ps :: may) ∧ (d.armed = 0 → (s.commit t d).2.1.armed = 0)) ∨
    ((s.commit t d).2.2 ≠ 0 ∧ (s.commit t d).2.2 ≠ 2 ∧ (s.commit t d).1.ps = s.ps ∧ Held (s.commit t d).1 (s.commit t d).2.1 (s.ps :: may) ∧ (d.armed = 0 → (s.commit t d).2.1.armed = 0)) ∨
    ((s.commit t d).2.2 = 2 ∧ (s.commit t d).1.dead = true ∧ (s.commit t d).2.1.dead = true ∧ d.armed ≠ 0 ∧ SitsP (s.commit t d).2.1 (t.now :: s.ps :: may) (s.l.g + 1)) := by
  have hm0 := h.more (may' := s.ps :: may) (fun q hq => List.mem_cons_of_mem _ hq)
  unfold SS.commit
  split
  · exact .inr (.inl ⟨(fun e => by cases e), (fun e => by cases e), rfl, hm0, id⟩)
  · rw [if_neg (by rw [h.live]; exact Bool.false_ne_true)]
    split
    · exact .inr (.inl ⟨(fun e => by cases e), (fun e => by cases e), rfl, hm0, id⟩)
    · split
      · rename_i h0
        have he := Sto.changes_same (by rw [hw]; exact h.good.rise) hn.rise h0
        rw [hw] at he
        exact .inl ⟨rfl, he, hm0.more (fun q hq => List.mem_cons_of_mem _ hq), id⟩
      · rename_i h0
        split
        · exact .inr (.inl ⟨(fun e => by cases e), (fun e => by cases e), rfl, hm0, id⟩)
        · rename_i h5
          cases hdo : Sto.does s.ps (Sto.changes t.was t.now) with
          | none => exact .inr (.inl ⟨(fun e => by cases e), (fun e => by cases e), rfl, hm0, id⟩)
          | some m =>
            have hmn : m = t.now := by
              rw [hw, Sto.does_changes h.good.rise hn.rise] at hdo
              split at hdo
              · exact (Option.some.inj hdo).symm
              · cases hdo
            subst hmn
            have hr : SS.rec1 s.ps (Sto.encode (Sto.changes t.was t.now) 2) = some t.now := by
              rw [hw] at h0 hdo h5 ⊢
              exact rec1_encode h.good hn h0 (by omega) hdo
            dsimp only
            unfold SS.taking
            rcases h.make (Sto.encode (Sto.changes t.was t.now) 2) with ⟨a, b, c, k⟩ | ⟨a, b, c, k⟩ | ⟨a, b, c, k, e⟩
            · rw [if_neg (by rw [a]; exact fun e => e rfl)]
              rcases c.add (by rw [b]; exact hr) with ⟨a', b', c', k'⟩ | ⟨a', b', c', k'⟩ | ⟨a', b', c', k', e'⟩
              · exact .inl ⟨a', b', c', fun z => k' (k z)⟩
              · exact .inr (.inl ⟨by omega, by omega, b'.trans b, c', fun z => k' (k z)⟩)
              · exact .inr (.inr ⟨a', b', c', fun z => k' (k z), e'.more (fun _ hq => hq) making_g⟩)
            · rw [if_pos (by omega)]
              exact .inr (.inl ⟨by omega, by omega, b, c, k⟩)
            · rw [if_pos (by omega)]
              exact .inr (.inr ⟨a, b, c, k, e.more (fun q hq => List.mem_cons_of_mem _ hq) (Nat.le_refl _)⟩)
theorem snap_good {snap : List UInt8} {p0 : Sto.Pairs} (h : SS.snapPairs snap = some p0) : Sto.Good p0 ∧ Sto.fits p0 = true := by
  unfold SS.snapPairs at h
  split at h
  · cases h; exact ⟨Sto.Good.nil, rfl⟩
  · cases hd : Sto.decode snap 4 2048 with
    | none => rw [hd] at h; cases h
    | some c =>
      rw [hd] at h
      replace h : (if c.all (·.put) then Sto.does [] c else none) = some p0 := h
      split at h
      · exact Sto.Good.nil.does (Sto.decode_fine hd).2.2.1 h
      · cases h
theorem replay_good : ∀ (rs : List (List UInt8)) (l m : Sto.Pairs), Sto.Good l ∧ Sto.fits l = true → SS.replay l rs = some m → Sto.Good m ∧ Sto.fits m = true
  | [], l, m, hl, h => by cases h; exact hl
  | r :: rs, l, m, hl, h => by
    have h1 := replay_append [r] rs l
    rw [show [r] ++ rs = r :: rs from rfl, h] at h1
    have h2 := replay_snoc [] l r
    rw [show ([] : List (List UInt8)) ++ [r] = [r] from rfl] at h2
    rw [h2] at h1
    replace h1 : some m = (SS.rec1 l r).bind fun m => SS.replay m rs := h1
    cases hr : SS.rec1 l r with
    | none => rw [hr] at h1; cases h1
    | some q =>
      rw [hr] at h1
      exact replay_good rs q m (rec1_good hl.1 hr) h1.symm
theorem SitsP.opens {d : DS} {may : List Sto.Pairs} {G : Nat} (h : SitsP d may G) (hd : d.dead = false) (ha : d.armed = 0) : ∃ u, SS.open_ d = (some u, (SS.open_ d).2.1, 0) ∧ u.ps ∈ may ∧ u.turn = 0 ∧ u.l.g ≤ G ∧ Held u (SS.open_ d).2.1 [u.ps] ∧ (SS.open_ d).2.1.armed = 0 ∧ (SS.open_ d).2.1.dead = false ∧ SitsP (SS.open_ d).2.1 [u.ps] G := by
  obtain ⟨f, g, snap, rs, p0, q, hg, h1, h2, h3, h4⟩ := h
  rcases Wal.open_sits h1 hd rfl with ⟨_, _, _, _, h0⟩ | ⟨a, b, c, e, i⟩
  · exact absurd ha h0
  · obtain ⟨g1, g2⟩ := replay_good rs p0 q (snap_good h2) h3
    have ho : SS.opened ⟨{ f := f, g := g, n := rs.length, dead := false }, snap, rs⟩ = some q := by unfold SS.opened; rw [h2]; exact h3
    have hop : SS.open_ d = (some { l := { f := f, g := g, n := rs.length, dead := false }, ps := q, turn := 0, dead := false }, (Wal.open_ d).2.1, 0) := by
      unfold SS.open_
      rw [a]
      simp only [ho]
    rw [hop]
    refine ⟨_, rfl, h4, rfl, hg, ⟨rfl, g1, g2, snap, rs, rs.length, p0, e.live c, h2, h3, fun j x y => ?_⟩, i ha, c, f, g, snap, rs, p0, q, hg, e.sits, h2, h3, by simp⟩
    obtain rfl : j = rs.length := by omega
    exact ⟨q, by rw [List.take_length]; exact h3, by simp⟩
end SS
end Go.Proofs.YtpjpknndfhablaaGreat
namespace Go.Proofs.YtpjpknndfhablaaGreat
namespace FixS
def s0 : SS := { l := Wal.q0, ps := [], turn := 0, dead := false }
theorem new_s : SS.new {} = (some s0, Wal.e0, 0) := by unfold SS.new; rw [Wal.new_q]; rfl
def ps : Sto.Pairs := [([97], []), ([98], [50])]
def C : List Sto.Ch := [⟨true, [97], []⟩, ⟨true, [98], [50]⟩]
def t1 : TS := { was := [], now := [([98], [50])], turn := 0, over := false }
def t2 : TS := { was := [], now := ps, turn := 0, over := false }
theorem put_1 : s0.begin_.put [98] [50] = (t1, 0) := by rfl
theorem put_2 : t1.put [97] [] = (t2, 0) := by rfl
theorem put_3 : t2.put [] [] = (t2, 111) := by rfl
theorem get_t : (Sto.get t2.now [98]).getD [] = [50] ∧ Sto.here t2.now [98] = true := by decide
theorem get_s : (Sto.get s0.ps [98]).getD [] = [] ∧ Sto.here s0.ps [98] = false := by decide
theorem changes_t : Sto.changes t2.was t2.now = C := by show Sto.changes [] ps = C; rw [Sto.changes_nil]; rfl
def E : List UInt8 := [0, 2, 1, 1, 97, 0, 0, 1, 1, 98, 0, 1, 50]
theorem encode_C : Sto.encode C 2 = E := by decide +kernel
theorem does_C : Sto.does [] C = some ps := by decide
def qa : Wal.LS := (Wal.append Wal.q0 Wal.e0 E).1
def ea : DS := (Wal.append Wal.q0 Wal.e0 E).2.1
theorem append_E : Wal.append Wal.q0 Wal.e0 E = (qa, ea, 0) ∧ Wal.Live qa ea [] [E] 0 ∧ ea.armed = 0 := by
  rcases Wal.append_live Wal.live0.1 E rfl with ⟨h, _⟩ | ⟨h1, h2, h3⟩ | ⟨_, _, _, h, _⟩
  · exfalso
    have : (Wal.append Wal.q0 Wal.e0 E).2.2 = 0 := by decide +kernel
    rw [this] at h
    omega
  · exact ⟨Prod.ext rfl (Prod.ext rfl h1), h2, h3 Wal.live0.2⟩
  · exact absurd Wal.live0.2 h
def sa : SS := { l := qa, ps := ps, turn := 1, dead := false }
theorem commit_s : s0.commit t2 Wal.e0 = (sa, ea, 0) := by
  unfold SS.commit
  rw [changes_t]
  rw [if_neg (by decide), if_neg (by decide), if_neg (by decide), if_neg (by decide), if_neg (by rw [encode_C]; decide)]
  show (match Sto.does [] C with | none => (s0, Wal.e0, 113) | some m => s0.taking Wal.e0 C m) = _
  rw [does_C]
  show s0.taking Wal.e0 C ps = _
  unfold SS.taking SS.making
  rw [encode_C]
  have hr : ¬ Wal.room s0.l Wal.e0 < E.length := by decide +kernel
  rw [if_neg hr, if_neg (fun e => e rfl)]
  unfold SS.adding
  show (if (Wal.append Wal.q0 Wal.e0 E).2.2 ≠ 0 then _ else _) = _
  rw [append_E.1, if_neg (fun e => e rfl)]
  rfl
theorem commit_again : sa.commit t2.ends ea = (sa, ea, 114) := by rfl
def eb : DS := (Wal.sync qa ea).2.1
theorem sync_q : Wal.sync qa ea = (qa, eb, 0) ∧ Wal.Clean eb qa.f qa.g [] [E] ∧ eb.armed = 0 ∧ eb.dead = false := by
  rcases Wal.sync_live append_E.2.1 rfl with ⟨h1, h2, h3, h4⟩ | ⟨_, _, _, h, _⟩
  · exact ⟨Prod.ext h2 (Prod.ext rfl h1), h3.clean, h4 append_E.2.2, h3.dd⟩
  · exact absurd append_E.2.2 h
theorem sync_s : sa.sync ea = (sa, eb, 0) := by
  unfold SS.sync
  rw [if_neg (by decide)]
  have e : sa.l = qa := rfl
  rw [e, sync_q.1]
  rfl
theorem told_s : sa.ps.length = 2 ∧ Sto.size sa.ps = 3 := by decide
theorem replay_E : SS.opened ⟨qa, [], [E]⟩ = some ps := by
  have hd : Sto.decode E 2 512 = some C := by
    rw [← encode_C]
    exact Sto.decode_encode (by decide) (by decide) (by decide) (fun c hc => by simp [C] at hc; rcases hc with rfl | rfl <;> exact ⟨by decide, by decide, by decide⟩) (by unfold Sto.RiseC C; simp; decide)
  have h1 : SS.rec1 [] E = some ps := by unfold SS.rec1; rw [hd]; exact does_C
  have h2 := SS.replay_next (rs := [E]) (l := []) (m := []) (j := 0) (r := E) rfl rfl
  rw [h1] at h2
  unfold SS.opened SS.snapPairs
  rw [if_pos rfl]
  have h3 : List.take (0 + 1) [E] = [E] := rfl
  rw [h3] at h2
  simp only [Option.bind_some]
  exact h2
theorem open_s : ∃ u ec, SS.open_ eb = (some u, ec, 0) ∧ u.ps = ps := by
  obtain ⟨h1, _⟩ := Wal.open_clean sync_q.2.1 sync_q.2.2.2 sync_q.2.2.1
  unfold SS.open_
  rw [h1]
  have h2 : ∀ l, SS.opened ⟨l, [], [E]⟩ = some ps := fun l => replay_E
  simp only [h2]
  exact ⟨_, _, rfl, rfl⟩
theorem scan_s : Sto.scan ps [] 9 = ps := by decide
theorem qa_few : qa.n ≤ 4611686018427387904 ∧ qa.g ≤ 4611686018427387904 := by
  have := append_E.2.1
  exact ⟨by rw [this.n]; decide, this.g2⟩
end FixS
end Go.Proofs.YtpjpknndfhablaaGreat

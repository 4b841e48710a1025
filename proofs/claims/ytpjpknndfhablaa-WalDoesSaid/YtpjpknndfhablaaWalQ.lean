/- The log of chapter 10: opening what sits on a disk; calls on an open log. Plain Lean. -/
import Derived.Test.YtpjpknndfhablaaWalP
namespace Go.Proofs.Ytpjpknndfhablaa
namespace Wal
theorem Sits.len {d : DS} {f : Bool} {g : Nat} {snap : List UInt8} {rs : List (List UInt8)} (h : Sits d f g snap rs) : 20 + snap.length + (frames rs).length ≤ (d.base f).length := by
  obtain ⟨x, k, _, _, hf⟩ := h.file
  rw [hf]; simp [head_length]
theorem tick_base (d : DS) (f : Bool) : d.tick.base f = d.base f := by cases f <;> rfl
/-- Behind the first cut of an opening. -/
theorem cutEnd_cases {d : DS} {f : Bool} {g : Nat} {snap : List UInt8} {rs : List (List UInt8)} (h : Sits d f g snap rs) (hd : d.dead = false) {r : DS × Int} (hr : cutEnd d f (20 + snap.length + (frames rs).length) = r) :
    (r.2 = 2 ∧ r.1.dead = true ∧ Sits r.1 f g snap rs ∧ d.armed ≠ 0) ∨
      (r.2 = 0 ∧ r.1.dead = false ∧ r.1.u = [] ∧ r.1.base f = head g snap ++ frames rs ∧ r.1.base (!f) = d.base (!f) ∧ (d.armed = 0 → r.1.armed = 0)) := by
  obtain ⟨x, k, hx, hk, hf⟩ := h.file
  subst hr
  unfold cutEnd
  by_cases hp : 20 + snap.length + (frames rs).length < (d.file f).length
  · rw [if_pos hp]
    rcases cut_cases h.u hd (f := f) h.len with ⟨hg, hc⟩ | ⟨hg, hc⟩
    · right
      have hc' : d.cut (DS.fi f) ((20 + snap.length + (frames rs).length : Nat) : Int) = (d.tick.short f (20 + snap.length + (frames rs).length), 0) := hc
      rw [hc']
      obtain ⟨b1, b2, b3, b4, b5⟩ := short_base d.tick f (20 + snap.length + (frames rs).length)
      refine ⟨rfl, by rw [b4]; exact hd, by rw [b3]; exact h.u, ?_, by rw [b2, tick_base], fun h0 => by rw [b5]; simp [DS.tick, h0]⟩
      rw [b1, tick_base, hf, ← List.append_assoc, List.take_left' (by simp [head_length])]
    · left
      have hc' : d.cut (DS.fi f) ((20 + snap.length + (frames rs).length : Nat) : Int) = (d.tick.die d.keep, 2) := hc
      rw [hc']
      exact ⟨rfl, rfl, h.same rfl (fun q => by rw [DS.die_tick]; exact die_base h.u _ q), goes_true hg⟩
  · rw [if_neg hp]
    right
    have hk0 : (frame x).take k = [] := by
      rw [file_base h.u, hf] at hp
      simp only [List.length_append, List.length_take, head_length] at hp
      have hm : min k (frame x).length = 0 := by omega
      apply List.eq_nil_of_length_eq_zero; rw [List.length_take]; exact hm
    exact ⟨rfl, hd, h.u, by rw [hf, hk0, List.append_nil], rfl, fun h0 => h0⟩
theorem cutOther_cases {d : DS} {f : Bool} (hu : d.u = []) (hd : d.dead = false) {other : List UInt8} (ho : d.base f = other) {r : DS × Int} (hr : cutOther d f other = r) :
    (r.2 = 2 ∧ r.1.dead = true ∧ r.1.u = [] ∧ (∀ q, r.1.base q = d.base q) ∧ d.armed ≠ 0) ∨
      (r.2 = 0 ∧ r.1.dead = false ∧ r.1.u = [] ∧ r.1.base f = [] ∧ r.1.base (!f) = d.base (!f) ∧ (d.armed = 0 → r.1.armed = 0)) := by
  subst hr
  unfold cutOther
  by_cases hn : other ≠ []
  · rw [if_pos hn]
    rcases cut_cases hu hd (f := f) (p := 0) (by omega) with ⟨hg, hc⟩ | ⟨hg, hc⟩
    · right
      have hc' : d.cut (DS.fi f) 0 = (d.tick.short f 0, 0) := hc
      rw [hc']
      obtain ⟨b1, b2, b3, b4, b5⟩ := short_base d.tick f 0
      exact ⟨rfl, by rw [b4]; exact hd, by rw [b3]; exact hu, by rw [b1]; rfl, by rw [b2, tick_base], fun h0 => by rw [b5]; simp [DS.tick, h0]⟩
    · left
      have hc' : d.cut (DS.fi f) 0 = (d.tick.die d.keep, 2) := hc
      rw [hc']
      exact ⟨rfl, rfl, rfl, fun q => by rw [DS.die_tick]; exact die_base hu _ q, goes_true hg⟩
  · rw [if_neg hn]
    right
    exact ⟨rfl, hd, hu, by rw [ho]; simpa using hn, rfl, fun h0 => h0⟩
/-- What an opening tells of what sits there: it, and all is clean; or the power goes, and it sits there still. -/
theorem open_sits {d : DS} {f : Bool} {g : Nat} {snap : List UInt8} {rs : List (List UInt8)} (h : Sits d f g snap rs) (hd : d.dead = false) {r : Option Opened × DS × Int} (hr : open_ d = r) :
    (r.1 = none ∧ r.2.2 = 2 ∧ r.2.1.dead = true ∧ Sits r.2.1 f g snap rs ∧ d.armed ≠ 0) ∨
      (r.1 = some ⟨{ f := f, g := g, n := rs.length, dead := false }, snap, rs⟩ ∧ r.2.2 = 0 ∧ r.2.1.dead = false ∧ Clean r.2.1 f g snap rs ∧ (d.armed = 0 → r.2.1.armed = 0)) := by
  obtain ⟨e1, e2⟩ := h.shown
  have hg := h.g1
  subst hr
  unfold open_
  rw [if_neg (by simp [hd]), e1, if_neg (by simp; omega), e2, h.best]
  simp only
  have ho : d.file (!f) = d.base (!f) := file_base h.u _
  rcases cutEnd_cases h hd rfl with ⟨r1, r2, r3, r4⟩ | ⟨r1, r2, r3, r4, r5, r6⟩
  · left
    have hc : cuts d f (20 + snap.length + (frames rs).length) = cutEnd d f (20 + snap.length + (frames rs).length) := by unfold cuts; rw [if_pos (by rw [r1]; decide)]
    rw [hc, if_pos (by rw [r1]; decide)]
    exact ⟨rfl, rfl, r2, r3, r4⟩
  · have hc : cuts d f (20 + snap.length + (frames rs).length) = cutOther (cutEnd d f (20 + snap.length + (frames rs).length)).1 (!f) (d.file (!f)) := by unfold cuts; rw [if_neg (by rw [r1]; decide)]
    rw [hc]
    have hs : Sits (cutEnd d f (20 + snap.length + (frames rs).length)).1 f g snap rs :=
      ⟨r3, h.g1, h.g2, h.sl, h.short, ⟨[], 0, by simp, by simp [frame_length], by simp [r4]⟩, by rw [r5]; exact h.other⟩
    rcases cutOther_cases r3 r2 (f := !f) (other := d.file (!f)) (by rw [ho]; exact r5) rfl with ⟨q1, q2, q3, q4, q5⟩ | ⟨q1, q2, q3, q4, q5, q6⟩
    · left
      rw [if_pos (by rw [q1]; decide)]
      exact ⟨rfl, rfl, q2, hs.same q3 q4, fun h0 => q5 (r6 h0)⟩
    · right
      rw [if_neg (by rw [q1]; decide)]
      exact ⟨rfl, rfl, q2, ⟨q3, h.g1, h.g2, h.sl, h.short, by simp only [Bool.not_not] at q5; exact q5.trans r4, q4⟩, fun h0 => q6 (r6 h0)⟩

/-- An open log on its disk: the first m records are safe. -/
structure Live (l : LS) (d : DS) (snap : List UInt8) (rs : List (List UInt8)) (m : Nat) : Prop where
  ld : l.dead = false
  dd : d.dead = false
  g1 : 1 ≤ l.g
  g2 : l.g ≤ 4611686018427387904
  n : l.n = rs.length
  sl : snap.length ≤ 524288
  short : Short rs
  le : m ≤ rs.length
  file : d.base l.f = head l.g snap ++ frames (rs.take m)
  u : d.u = (frames (rs.drop m)).map (l.f, ·)
  other : d.base (!l.f) = []
theorem Clean.live {d : DS} {f : Bool} {g : Nat} {snap : List UInt8} {rs : List (List UInt8)} (h : Clean d f g snap rs) (hd : d.dead = false) : Live { f := f, g := g, n := rs.length, dead := false } d snap rs rs.length :=
  ⟨rfl, hd, h.g1, h.g2, rfl, h.sl, h.short, Nat.le_refl _, by simp [h.file], by simp [h.u, frames], h.other⟩
theorem Short.take {rs : List (List UInt8)} (h : Short rs) (j : Nat) : Short (rs.take j) := fun s hs => h s (List.mem_of_mem_take hs)
theorem Short.drop {rs : List (List UInt8)} (h : Short rs) (j : Nat) : Short (rs.drop j) := fun s hs => h s (List.mem_of_mem_drop hs)
theorem Short.snoc {rs : List (List UInt8)} (h : Short rs) {s : List UInt8} (hs : s.length ≤ 65536) : Short (rs ++ [s]) := fun x hx => by
  rcases List.mem_append.1 hx with hx | hx
  · exact h x hx
  · simp at hx; subst hx; exact hs
/-- Unsafe bytes of one file alone: what is left of them. -/
theorem die_one {d : DS} {f : Bool} {b : List UInt8} (hu : d.u = b.map (f, ·)) (k : Nat) : (d.die k).base f = d.base f ++ b.take k ∧ (d.die k).base (!f) = d.base (!f) ∧ (d.die k).u = [] := by
  have h1 : DS.of f (d.u.take k) = b.take k := by rw [hu, ← List.map_take]; exact DS.of_map_same f _
  have h2 : DS.of (!f) (d.u.take k) = [] := by rw [hu, ← List.map_take]; exact DS.of_map_other (!f) f _ (by cases f <;> simp)
  cases f
  · exact ⟨by show d.left k false = _; rw [DS.left, h1], by show d.left k true = _; rw [DS.left]; simp only [Bool.not_false] at h2; rw [h2, List.append_nil]; rfl, rfl⟩
  · exact ⟨by show d.left k true = _; rw [DS.left, h1], by show d.left k false = _; rw [DS.left]; simp only [Bool.not_true] at h2; rw [h2, List.append_nil]; rfl, rfl⟩
/-- Unsafe frames behind a log: some of the records are left. -/
theorem sits_die {d : DS} {f : Bool} {g : Nat} {snap : List UInt8} {rs : List (List UInt8)} {m : Nat} (g1 : 1 ≤ g) (g2 : g ≤ 4611686018427387904) (sl : snap.length ≤ 524288) (short : Short rs) (hm : m ≤ rs.length)
    (file : d.base f = head g snap ++ frames (rs.take m)) (hu : d.u = (frames (rs.drop m)).map (f, ·)) (other : d.base (!f) = []) (k : Nat) : ∃ j, m ≤ j ∧ j ≤ rs.length ∧ Sits (d.die k) f g snap (rs.take j) := by
  obtain ⟨h1, h2, h3⟩ := die_one hu k
  obtain ⟨j, x, q, a1, a2, a3, a4⟩ := take_frames (rs.drop m) (short.drop m) k
  rw [List.length_drop] at a1
  refine ⟨m + j, by omega, by omega, h3, g1, g2, sl, short.take _, ⟨x, q, a2, a3, ?_⟩, by rw [h2, other, counts_nil]; exact g1⟩
  rw [h1, file, a4, List.append_assoc, ← List.append_assoc (frames _) (frames _), ← frames_append, List.take_add]
theorem Live.crash {l : LS} {d : DS} {snap : List UInt8} {rs : List (List UInt8)} {m : Nat} (h : Live l d snap rs m) (k : Nat) : ∃ j, m ≤ j ∧ j ≤ rs.length ∧ Sits (d.die k) l.f l.g snap (rs.take j) :=
  sits_die h.g1 h.g2 h.sl h.short h.le h.file h.u h.other k
theorem of_u {l : LS} {d : DS} {snap : List UInt8} {rs : List (List UInt8)} {m : Nat} (h : Live l d snap rs m) : d.file l.f = head l.g snap ++ frames rs ∧ d.file (!l.f) = [] := by
  constructor
  · rw [DS.file, h.u, DS.of_map_same, h.file, List.append_assoc, ← frames_append, List.take_append_drop]
  · rw [DS.file, h.u, DS.of_map_other _ _ _ (by cases l.f <;> simp), h.other]; rfl
/-- An append: it is refused and nothing has changed; or it is done; or the power goes, and some beginning of the records is left. -/
theorem append_live {l : LS} {d : DS} {snap : List UInt8} {rs : List (List UInt8)} {m : Nat} (h : Live l d snap rs m) (s : List UInt8) {r : LS × DS × Int} (hr : append l d s = r) :
    ((r.2.2 = 101 ∨ r.2.2 = 102) ∧ r.1 = l ∧ r.2.1 = d) ∨
    (r.2.2 = 0 ∧ Live r.1 r.2.1 snap (rs ++ [s]) m ∧ (d.armed = 0 → r.2.1.armed = 0)) ∨
    (r.2.2 = 2 ∧ r.1.dead = true ∧ r.2.1.dead = true ∧ d.armed ≠ 0 ∧ ∃ j, m ≤ j ∧ j ≤ rs.length + 1 ∧ Sits r.2.1 l.f l.g snap ((rs ++ [s]).take j)) := by
  subst hr
  unfold append
  rw [if_neg (by simp [h.ld])]
  by_cases h1 : 65536 < s.length
  · rw [if_pos h1]; exact .inl ⟨.inl rfl, rfl, rfl⟩
  by_cases h2 : 1048576 < d.size l.f + 8 + s.length
  · rw [if_neg h1, if_pos h2]; exact .inl ⟨.inr rfl, rfl, rfl⟩
  rw [if_neg h1, if_neg h2]
  have hshort := h.short.snoc (s := s) (by omega)
  have hm := h.le
  have hlay : (d.tick.lay l.f (frame s)).base l.f = head l.g snap ++ frames ((rs ++ [s]).take m) ∧ (d.tick.lay l.f (frame s)).u = (frames ((rs ++ [s]).drop m)).map (l.f, ·) ∧ (d.tick.lay l.f (frame s)).base (!l.f) = [] := by
    refine ⟨?_, ?_, ?_⟩
    · have : (d.tick.lay l.f (frame s)).base l.f = d.base l.f := by cases l.f <;> rfl
      rw [this, h.file, List.take_append_of_le_length hm]
    · show d.u ++ (frame s).map (l.f, ·) = _
      rw [h.u, List.drop_append_of_le_length hm, frames_append, List.map_append]; simp [frames]
    · have : (d.tick.lay l.f (frame s)).base (!l.f) = d.base (!l.f) := by cases l.f <;> rfl
      rw [this, h.other]
  obtain ⟨k1, k2, k3⟩ := hlay
  have ha : d.append (DS.fi l.f) (frame s) = if d.goes then ((d.tick.lay l.f (frame s)).die d.keep, 2) else (d.tick.lay l.f (frame s), 0) := by
    unfold DS.append
    rw [if_neg (by simp [h.dd]), DS.fileNo_of]
    simp only
    rw [if_neg (by rw [frame_length]; omega)]
  rw [ha]
  cases hg : d.goes
  · refine .inr (.inl ⟨rfl, ⟨h.ld, h.dd, h.g1, h.g2, by simp [h.n], h.sl, hshort, by simp; omega, k1, k2, k3⟩, fun h0 => ?_⟩)
    show d.armed - 1 = 0
    omega
  · refine .inr (.inr ⟨rfl, rfl, rfl, goes_true hg, ?_⟩)
    have := sits_die (d := d.tick.lay l.f (frame s)) h.g1 h.g2 h.sl hshort (m := m) (by simp; omega) k1 k2 k3 d.keep
    simpa using this
theorem saved_base (d : DS) (f : Bool) : d.saved.base f = d.file f := by cases f <;> rfl
/-- A sync. -/
theorem sync_live {l : LS} {d : DS} {snap : List UInt8} {rs : List (List UInt8)} {m : Nat} (h : Live l d snap rs m) {r : LS × DS × Int} (hr : sync l d = r) :
    (r.2.2 = 0 ∧ r.1 = l ∧ Live l r.2.1 snap rs rs.length ∧ (d.armed = 0 → r.2.1.armed = 0)) ∨
    (r.2.2 = 2 ∧ r.1.dead = true ∧ r.2.1.dead = true ∧ d.armed ≠ 0 ∧ ∃ j, m ≤ j ∧ j ≤ rs.length ∧ Sits r.2.1 l.f l.g snap (rs.take j)) := by
  subst hr
  unfold sync
  rw [if_neg (by simp [h.ld])]
  have hs : d.sync = if d.goes then (d.tick.die d.keep, 2) else (d.tick.saved, 0) := by unfold DS.sync; rw [if_neg (by simp [h.dd])]
  obtain ⟨f1, f2⟩ := of_u h
  rw [hs]
  cases hg : d.goes
  · refine .inl ⟨rfl, rfl, ⟨h.ld, h.dd, h.g1, h.g2, h.n, h.sl, h.short, Nat.le_refl _, ?_, ?_, ?_⟩, fun h0 => ?_⟩
    · show d.tick.saved.base l.f = _
      rw [saved_base, List.take_length]; exact f1
    · show [] = _
      rw [List.drop_length]; rfl
    · show d.tick.saved.base (!l.f) = _
      rw [saved_base]; exact f2
    · show d.armed - 1 = 0
      omega
  · refine .inr ⟨rfl, rfl, rfl, goes_true hg, ?_⟩
    show ∃ j, m ≤ j ∧ j ≤ rs.length ∧ Sits (d.tick.die d.keep) l.f l.g snap (rs.take j)
    rw [DS.die_tick]; exact h.crash _
theorem tick_zero {d : DS} (h : d.armed = 0) : d.tick.armed = 0 := by simp [DS.tick, h]
/-- Behind the laying of the new file: it stands there whole and safe; or the power went, and the old one sits there, or the new one. -/
theorem lays_live {l : LS} {d : DS} {snap : List UInt8} {rs : List (List UInt8)} {m : Nat} (h : Live l d snap rs m) {snap' : List UInt8} (hs : snap'.length ≤ 524288) (hg : l.g < 4611686018427387904) {r : DS × Int} (hr : lays d (!l.f) (l.g + 1) snap' = r) :
    (r.2 = 0 ∧ r.1.dead = false ∧ r.1.u = [] ∧ r.1.base l.f = head l.g snap ++ frames rs ∧ r.1.base (!l.f) = head (l.g + 1) snap' ∧ (d.armed = 0 → r.1.armed = 0)) ∨
    (r.2 = 2 ∧ r.1.dead = true ∧ d.armed ≠ 0 ∧ ((∃ j, m ≤ j ∧ j ≤ rs.length ∧ Sits r.1 l.f l.g snap (rs.take j)) ∨ Sits r.1 (!l.f) (l.g + 1) snap' [])) := by
  subst hr
  obtain ⟨f1, f2⟩ := of_u h
  have hg1 := h.g1
  have ha : d.append (DS.fi (!l.f)) (head (l.g + 1) snap') = if d.goes then ((d.tick.lay (!l.f) (head (l.g + 1) snap')).die d.keep, 2) else (d.tick.lay (!l.f) (head (l.g + 1) snap'), 0) := by
    unfold DS.append
    rw [if_neg (by simp [h.dd]), DS.fileNo_of]
    simp only
    rw [if_neg (by rw [DS.size, f2, head_length]; simp; omega)]
  -- what the two files hold when k unsafe bytes are left
  have key : ∀ (e : DS) (k : Nat), e.base l.f = d.base l.f → e.base (!l.f) = [] → e.u = (frames (rs.drop m)).map (l.f, ·) ++ (head (l.g + 1) snap').map (!l.f, ·) →
      (∃ j, m ≤ j ∧ j ≤ rs.length ∧ Sits (e.die k) l.f l.g snap (rs.take j)) ∨ Sits (e.die k) (!l.f) (l.g + 1) snap' [] := by
    intro e k b1 b2 hu
    have hne : (!l.f) ≠ l.f := by cases l.f <;> simp
    have hne' : l.f ≠ (!l.f) := by cases l.f <;> simp
    have o1 : DS.of l.f (e.u.take k) = (frames (rs.drop m)).take k := by
      rw [hu, List.take_append, DS.of_append, ← List.map_take, ← List.map_take, DS.of_map_same, DS.of_map_other _ _ _ hne, List.append_nil]
    have o2 : DS.of (!l.f) (e.u.take k) = (head (l.g + 1) snap').take (k - (frames (rs.drop m)).length) := by
      rw [hu, List.take_append, DS.of_append, ← List.map_take, ← List.map_take, DS.of_map_same, DS.of_map_other _ _ _ hne', List.nil_append, List.length_map]
    have d1 : ∀ q, (e.die k).base q = e.base q ++ DS.of q (e.u.take k) := fun q => by cases q <;> rfl
    have e1 := d1 l.f
    have e2 := d1 (!l.f)
    rw [o1, b1, h.file, List.append_assoc] at e1
    rw [o2, b2, List.nil_append] at e2
    by_cases hk : k - (frames (rs.drop m)).length < (head (l.g + 1) snap').length
    · left
      obtain ⟨j, x, q, a1, a2, a3, a4⟩ := take_frames (rs.drop m) (h.short.drop m) k
      rw [List.length_drop] at a1
      have hle := h.le
      refine ⟨m + j, by omega, by omega, rfl, h.g1, h.g2, h.sl, h.short.take _, ⟨x, q, a2, a3, ?_⟩, by rw [e2, counts_part hk hs]; exact hg1⟩
      rw [e1, a4, ← List.append_assoc (frames _) (frames _), ← frames_append, List.take_add]
    · right
      rw [List.take_of_length_le (by omega)] at e2
      rw [head_length] at hk
      refine ⟨rfl, by omega, by omega, hs, (fun _ h => by cases h), ⟨[], 0, by simp, by simp [frame_length], by rw [e2]; simp [frames]⟩, ?_⟩
      rw [Bool.not_not, e1, counts_head h.g2 h.sl]
      exact Nat.lt_succ_self _
  have hl : (d.tick.lay (!l.f) (head (l.g + 1) snap')).base l.f = d.base l.f ∧ (d.tick.lay (!l.f) (head (l.g + 1) snap')).base (!l.f) = [] ∧ (d.tick.lay (!l.f) (head (l.g + 1) snap')).u = (frames (rs.drop m)).map (l.f, ·) ++ (head (l.g + 1) snap').map (!l.f, ·) := by
    refine ⟨by cases l.f <;> rfl, ?_, ?_⟩
    · rw [← h.other]; cases l.f <;> rfl
    · show d.u ++ _ = _
      rw [h.u]
  obtain ⟨l1, l2, l3⟩ := hl
  unfold lays
  rw [ha]
  cases hgo : d.goes
  · simp only [Bool.false_eq_true, if_false, ne_eq, not_true_eq_false]
    obtain ⟨E, hE⟩ : ∃ E, d.tick.lay (!l.f) (head (l.g + 1) snap') = E := ⟨_, rfl⟩
    rw [hE] at l1 l2 l3 ⊢
    have hEd : E.dead = false := by rw [← hE]; exact h.dd
    have hEa : d.armed = 0 → E.armed = 0 := fun h0 => by rw [← hE]; exact tick_zero h0
    have hsy : E.sync = if E.goes then (E.tick.die E.keep, 2) else (E.tick.saved, 0) := by unfold DS.sync; rw [if_neg (by simp [hEd])]
    have hne : (!l.f) ≠ l.f := by cases l.f <;> simp
    have hne' : l.f ≠ (!l.f) := by cases l.f <;> simp
    have v1 : E.file l.f = head l.g snap ++ frames rs := by
      rw [DS.file, l1, l3, DS.of_append, DS.of_map_same, DS.of_map_other _ _ _ hne, List.append_nil, h.file, List.append_assoc, ← frames_append, List.take_append_drop]
    have v2 : E.file (!l.f) = head (l.g + 1) snap' := by
      rw [DS.file, l2, l3, DS.of_append, DS.of_map_same, DS.of_map_other _ _ _ hne']; rfl
    rw [hsy]
    cases hgo2 : E.goes
    · left
      exact ⟨rfl, hEd, rfl, by show E.tick.saved.base l.f = _; rw [saved_base]; exact v1, by show E.tick.saved.base (!l.f) = _; rw [saved_base]; exact v2, fun h0 => tick_zero (hEa h0)⟩
    · right
      refine ⟨rfl, rfl, fun h0 => goes_true hgo2 (hEa h0), ?_⟩
      simp only [if_true, DS.die_tick]
      exact key E _ l1 l2 l3
  · right
    simp only [if_true]
    rw [if_pos (by decide)]
    exact ⟨rfl, rfl, goes_true hgo, key _ _ l1 l2 l3⟩
/-- A checkpoint. -/
theorem checkpoint_live {l : LS} {d : DS} {snap : List UInt8} {rs : List (List UInt8)} {m : Nat} (h : Live l d snap rs m) (snap' : List UInt8) {r : LS × DS × Int} (hr : checkpoint l d snap' = r) :
    ((r.2.2 = 101 ∨ r.2.2 = 102) ∧ r.1 = l ∧ r.2.1 = d) ∨
    (r.2.2 = 0 ∧ Live r.1 r.2.1 snap' [] 0 ∧ (d.armed = 0 → r.2.1.armed = 0)) ∨
    (r.2.2 = 2 ∧ r.1.dead = true ∧ r.2.1.dead = true ∧ d.armed ≠ 0 ∧ ((∃ j, m ≤ j ∧ j ≤ rs.length ∧ Sits r.2.1 l.f l.g snap (rs.take j)) ∨ Sits r.2.1 (!l.f) (l.g + 1) snap' [])) := by
  subst hr
  unfold checkpoint
  rw [if_neg (by simp [h.ld])]
  by_cases h1 : 524288 < snap'.length
  · rw [if_pos h1]; exact .inl ⟨.inl rfl, rfl, rfl⟩
  by_cases h2 : l.g = 4611686018427387904
  · rw [if_neg h1, if_pos h2]; exact .inl ⟨.inr rfl, rfl, rfl⟩
  have hg2 := h.g2
  have hg1 := h.g1
  rw [if_neg h1, if_neg h2]
  rcases lays_live h (snap' := snap') (by omega) (by omega) rfl with ⟨e0, e1, e2, e3, e4, e5⟩ | ⟨e0, e1, e2, e3⟩
  · rw [if_neg (by rw [e0]; decide)]
    generalize (lays d (!l.f) (l.g + 1) snap').1 = E at e1 e2 e3 e4 e5 ⊢
    rcases cut_cases e2 e1 (f := l.f) (p := 0) (by omega) with ⟨hgo, hc⟩ | ⟨hgo, hc⟩
    · have hc' : E.cut (DS.fi l.f) 0 = (E.tick.short l.f 0, 0) := hc
      rw [hc', if_neg (by simp)]
      obtain ⟨b1, b2, b3, b4, b5⟩ := short_base E.tick l.f 0
      refine .inr (.inl ⟨rfl, ⟨h.ld, by rw [b4]; exact e1, by show 1 ≤ l.g + 1; omega, by show l.g + 1 ≤ _; omega, rfl, by omega, (fun _ h => by cases h), Nat.le_refl _, ?_, ?_, ?_⟩, fun h0 => ?_⟩)
      · show (E.tick.short l.f 0).base (!l.f) = _
        rw [b2, tick_base, e4]; simp [frames]
      · show (E.tick.short l.f 0).u = _
        rw [b3]; exact e2
      · show (E.tick.short l.f 0).base (!!l.f) = _
        rw [Bool.not_not, b1]; rfl
      · show (E.tick.short l.f 0).armed = 0
        rw [b5]; exact tick_zero (e5 h0)
    · have hc' : E.cut (DS.fi l.f) 0 = (E.tick.die E.keep, 2) := hc
      rw [hc', if_pos (by simp)]
      refine .inr (.inr ⟨rfl, rfl, rfl, fun h0 => goes_true hgo (e5 h0), .inr ?_⟩)
      show Sits (E.tick.die E.keep) _ _ _ _
      rw [DS.die_tick]
      refine ⟨rfl, by omega, by omega, by omega, (fun _ h => by cases h), ⟨[], 0, by simp, by simp [frame_length], by rw [die_base e2, e4]; simp [frames]⟩, ?_⟩
      rw [Bool.not_not, die_base e2, e3, counts_head h.g2 h.sl]
      exact Nat.lt_succ_self _
  · rw [if_pos (by rw [e0]; decide)]
    exact .inr (.inr ⟨rfl, rfl, e1, e2, e3⟩)
/-- The power goes between two calls. -/
theorem new_live {r : Option LS × DS × Int} (hr : new {} = r) : ∃ l, r.1 = some l ∧ r.2.2 = 0 ∧ Live l r.2.1 [] [] 0 ∧ r.2.1.armed = 0 := by
  subst hr
  have e : new {} = (some { f := false, g := 1, n := 0, dead := false }, { a := head 1 [], armed := 0 }, 0) := by rfl
  rw [e]
  exact ⟨_, rfl, rfl, ⟨rfl, rfl, by decide, by decide, rfl, by simp, (fun _ h => by cases h), Nat.le_refl _, by simp [DS.base, frames], by simp [frames], rfl⟩, rfl⟩
/-! Room. -/
theorem room_bounds (l : LS) (d : DS) : -1 ≤ room l d ∧ room l d ≤ 65536 := by unfold room; omega
/-- One more byte than there is room for is too much. -/
theorem room_more {l : LS} {d : DS} (hl : l.dead = false) {s : List UInt8} (hr : room l d < 65536) (hs : (s.length : Int) = room l d + 1) : append l d s = (l, d, 102) := by
  unfold append
  have h1 : (s.length : Int) ≤ 65536 := by omega
  have h2 : (1048576 : Int) < d.size l.f + 8 + s.length := by unfold room at hr hs; omega
  rw [if_neg (by simp [hl]), if_neg (by omega), if_pos (by omega)]
theorem long_append {l : LS} {d : DS} (hl : l.dead = false) {s : List UInt8} (hs : 65536 < s.length) : append l d s = (l, d, 101) := by
  unfold append; rw [if_neg (by simp [hl]), if_pos hs]
theorem long_checkpoint {l : LS} {d : DS} (hl : l.dead = false) {s : List UInt8} (hs : 524288 < s.length) : checkpoint l d s = (l, d, 101) := by
  unfold checkpoint; rw [if_neg (by simp [hl]), if_pos hs]
end Wal
end Go.Proofs.Ytpjpknndfhablaa

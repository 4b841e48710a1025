/- The log of chapter 10: what the power's going leaves of it is what some beginning of its records made. Plain Lean. The log of chapter 10: opening what sits on a disk; calls on an open log. Plain Lean. One log of the program on a disk that the call itself made: the contracts once more. Calls on the disk under a store with its transactions: Arm, Crash, Revive. One store of the program on a disk that the call itself made, with one transaction or none: the contracts once more. A store opened again; a store beside what turns elsewhere. The document's store with all its transactions, beside all that belongs to anybody (UA). The document's calls on the store with all its transactions. -/
import Derived.Test.YtpjpknndfhablaaGreatK4
import Derived.Test.YtpjpknndfhablaaGreatK12
import Derived.Test.YtpjpknndfhablaaGreatK15
import Derived.Test.YtpjpknndfhablaaGreatK16
import Derived.Test.YtpjpknndfhablaaGreatK19
namespace Go.Proofs.YtpjpknndfhablaaGreat
namespace Wal
def frames (rs : List (List UInt8)) : List UInt8 := rs.flatMap frame
theorem frames_append (a b : List (List UInt8)) : frames (a ++ b) = frames a ++ frames b := by simp [frames]
theorem frames_cons (s : List UInt8) (rs : List (List UInt8)) : frames (s :: rs) = frame s ++ frames rs := by simp [frames]
theorem frames_nil : frames [] = [] := rfl
def Short (rs : List (List UInt8)) : Prop := ∀ s ∈ rs, s.length ≤ 65536
/-- A beginning of frames is some whole ones and a beginning of one. -/
theorem take_frames (rs : List (List UInt8)) (h : Short rs) (K : Nat) : ∃ j x k, j ≤ rs.length ∧ x.length ≤ 65536 ∧ k < (frame x).length ∧ (frames rs).take K = frames (rs.take j) ++ (frame x).take k := by
 induction rs generalizing K with
 | nil => exact ⟨0, [], 0, Nat.le_refl _, by simp, by simp [frame_length], by simp [frames]⟩
 | cons s rs ih =>
  by_cases hK : K < (frame s).length
  ·refine ⟨0, s, K, by omega, h s (by simp), hK, ?_⟩
   rw [frames_cons, List.take_append_of_le_length (by omega)]; simp [frames]
  ·obtain ⟨j, x, k, h1, h2, h3, h4⟩ := ih (fun s hs => h s (by simp [hs])) (K - (frame s).length)
   refine ⟨j + 1, x, k, by simp; omega, h2, h3, ?_⟩
   rw [frames_cons, List.take_append, List.take_of_length_le (by omega), h4, List.take_succ_cons, frames_cons, List.append_assoc]
theorem counts_head {g : Nat} {snap r : List UInt8} (hg : g ≤ 4611686018427387904) (hs : snap.length ≤ 524288) : counts (head g snap ++ r) = (g, snap, 20 + snap.length) := by
 have hw : whole (head g snap ++ r) 12 524288 = (snap, true) := by
  have h := whole_frame (a := magic ++ Sha.big g 8) (s := snap) (r := r) (most := 524288) hs (by omega)
  have e : (magic ++ Sha.big g 8).length = 12 := by simp [magic, Sha.big_length]
  rw [e] at h
  simpa [head, List.append_assoc] using h
 have e1 : (head g snap ++ r).take 4 = magic := by simp [head, magic]
 have e2 : ((head g snap ++ r).drop 4).take 8 = Sha.big g 8 := by
  have h : head g snap ++ r = magic ++ (Sha.big g 8 ++ (frame snap ++ r)) := by simp [head, List.append_assoc]
  rw [h, List.drop_left' (by rfl), List.take_left' (Sha.big_length _ _)]
 have v : Sha.val (Sha.big g 8) = g := val_big_of (by
  have : (256 : Nat) ^ 8 = 18446744073709551616 := rfl
  omega)
 unfold counts
 rw [if_neg (by rw [e1]; simp [head_length]; omega), e2, v, hw, if_neg (by simp; omega)]
theorem counts_nil : counts [] = (0, [], 0) := rfl
theorem reads_frames (rs : List (List UInt8)) (h : Short rs) (a x : List UInt8) (k n : Nat) (hx : x.length ≤ 65536) (hk : k < (frame x).length) (hn : rs.length < n) :
  reads (a ++ (frames rs ++ (frame x).take k)) n a.length = (rs, a.length + (frames rs).length) := by
 induction rs generalizing a n with
 | nil =>
  obtain ⟨n, rfl⟩ : ∃ m, n = m + 1 := ⟨n - 1, by simp at hn; omega⟩
  have := whole_none (a := a) (s := x) (most := 65536) hk (by omega)
  simp only [frames_nil, List.nil_append, reads, this]
  simp
 | cons s rs ih =>
  obtain ⟨n, rfl⟩ : ∃ m, n = m + 1 := ⟨n - 1, by simp at hn; omega⟩
  have hs := h s (by simp)
  have hw := whole_frame (a := a) (s := s) (r := frames rs ++ (frame x).take k) (most := 65536) hs (by omega)
  have hr := ih (fun s hs => h s (by simp [hs])) (a ++ frame s) n (by simp at hn; omega)
  have e : a ++ (frames (s :: rs) ++ (frame x).take k) = a ++ (frame s ++ (frames rs ++ (frame x).take k)) := by rw [frames_cons, List.append_assoc]
  rw [e, reads, hw]
  simp only [if_true]
  have e2 : a.length + 8 + s.length = (a ++ frame s).length := by simp [frame_length]; omega
  rw [e2]
  rw [show a ++ (frame s ++ (frames rs ++ (frame x).take k)) = (a ++ frame s) ++ (frames rs ++ (frame x).take k) by simp [List.append_assoc], hr]
  simp [frames_cons]; omega
theorem frames_length_le (rs : List (List UInt8)) : rs.length * 8 ≤ (frames rs).length := by
 induction rs with
 | nil => simp
 | cons s rs ih => rw [frames_cons, List.length_append, frame_length, List.length_cons]; omega
theorem recs_frames (rs : List (List UInt8)) (h : Short rs) (a x : List UInt8) (k : Nat) (hx : x.length ≤ 65536) (hk : k < (frame x).length) :
  recs (a ++ (frames rs ++ (frame x).take k)) a.length = (rs, a.length + (frames rs).length) := by
 refine reads_frames rs h a x k _ hx hk ?_
 have := frames_length_le rs
 simp only [List.length_append]; omega

/-- A disk without unsafe bytes, on which a log stands, perhaps with something behind it or beside it that does not count. -/
structure Sits (d : DS) (f : Bool) (g : Nat) (snap : List UInt8) (rs : List (List UInt8)) : Prop where
 u : d.u = []
 g1 : 1 ≤ g
 g2 : g ≤ 4611686018427387904
 sl : snap.length ≤ 524288
 short : Short rs
 file : ∃ x k, x.length ≤ 65536 ∧ k < (frame x).length ∧ d.base f = head g snap ++ (frames rs ++ (frame x).take k)
 other : (counts (d.base (!f))).1 < g
theorem file_base {d : DS} (h : d.u = []) (f : Bool) : d.file f = d.base f := by simp [DS.file, h, DS.of]
theorem Sits.best {d : DS} {f : Bool} {g : Nat} {snap : List UInt8} {rs : List (List UInt8)} (h : Sits d f g snap rs) : best d = f := by
 obtain ⟨x, k, _, _, hf⟩ := h.file
 have h1 : (counts (d.base f)).1 = g := by rw [hf, counts_head h.g2 h.sl]
 have h2 := h.other
 unfold Wal.best
 rw [file_base h.u, file_base h.u]
 cases f
 ·simp only [Bool.not_false] at h2; rw [h1]; simp; omega
 ·simp only [Bool.not_true] at h2; rw [h1]; simp; omega
theorem Sits.shown {d : DS} {f : Bool} {g : Nat} {snap : List UInt8} {rs : List (List UInt8)} (h : Sits d f g snap rs) : shown d = (g, snap, 20 + snap.length) ∧ shownRecs d = (rs, 20 + snap.length + (frames rs).length) := by
 obtain ⟨x, k, hx, hk, hf⟩ := h.file
 have e : Wal.shown d = (g, snap, 20 + snap.length) := by rw [Wal.shown, h.best, file_base h.u, hf, counts_head h.g2 h.sl]
 refine ⟨e, ?_⟩
 rw [shownRecs, e, h.best, file_base h.u, hf]
 have := recs_frames rs h.short (head g snap) x k hx hk
 rwa [head_length] at this
/-- All is safe, nothing stands behind the log or beside it. -/
structure Clean (d : DS) (f : Bool) (g : Nat) (snap : List UInt8) (rs : List (List UInt8)) : Prop where
 u : d.u = []
 g1 : 1 ≤ g
 g2 : g ≤ 4611686018427387904
 sl : snap.length ≤ 524288
 short : Short rs
 file : d.base f = head g snap ++ frames rs
 other : d.base (!f) = []
theorem Clean.sits {d : DS} {f : Bool} {g : Nat} {snap : List UInt8} {rs : List (List UInt8)} (h : Clean d f g snap rs) : Sits d f g snap rs :=
 ⟨h.u, h.g1, h.g2, h.sl, h.short, ⟨[], 0, by simp, by simp [frame_length], by simp [h.file]⟩, by rw [h.other, counts_nil]; exact h.g1⟩
theorem die_nil {d : DS} (h : d.u = []) (k : Nat) : (d.die k).base false = d.base false ∧ (d.die k).base true = d.base true ∧ (d.die k).u = [] := by
 simp [DS.die, DS.base, DS.left, h, DS.of]
theorem die_base {d : DS} (h : d.u = []) (k : Nat) (f : Bool) : (d.die k).base f = d.base f := by
 cases f
 ·exact (die_nil h k).1
 ·exact (die_nil h k).2.1
theorem Sits.same {d d' : DS} {f : Bool} {g : Nat} {snap : List UInt8} {rs : List (List UInt8)} (h : Sits d f g snap rs) (hu : d'.u = []) (hb : ∀ f, d'.base f = d.base f) : Sits d' f g snap rs := by
 obtain ⟨x, k, hx, hk, hf⟩ := h.file
 exact ⟨hu, h.g1, h.g2, h.sl, h.short, ⟨x, k, hx, hk, by rw [hb, hf]⟩, by rw [hb]; exact h.other⟩
theorem Sits.revive {d : DS} {f : Bool} {g : Nat} {snap : List UInt8} {rs : List (List UInt8)} (h : Sits d f g snap rs) : Sits d.revive f g snap rs := h.same h.u (fun f => by cases f <;> rfl)
/-- A cut of a file without unsafe bytes: it is done, or the power goes and nothing has changed. -/
theorem cut_cases {d : DS} (hu : d.u = []) (hd : d.dead = false) {f : Bool} {p : Nat} (hp : p ≤ (d.base f).length) :
  (d.goes = false ∧ d.cut (DS.fi f) p = (d.tick.short f p, 0)) ∨ (d.goes = true ∧ d.cut (DS.fi f) p = (d.tick.die d.keep, 2)) := by
 unfold DS.cut
 rw [if_neg (by simp [hd]), DS.fileNo_of]
 have hs : d.size f = (d.base f).length := by simp [DS.size, file_base hu]
 simp only
 rw [if_neg (by rw [hs, hu]; simp [DS.of]; omega)]
 cases hg : d.goes
 ·left; simp
 ·right; simp
theorem short_base (d : DS) (f : Bool) (p : Nat) : (d.short f p).base f = (d.base f).take p ∧ (d.short f p).base (!f) = d.base (!f) ∧ (d.short f p).u = d.u ∧ (d.short f p).dead = d.dead ∧ (d.short f p).armed = d.armed := by
 cases f <;> simp [DS.short, DS.base]
theorem goes_armed {d : DS} (h : d.armed = 0) : d.goes = false := (DS.goes_zero h).1
theorem goes_true {d : DS} (h : d.goes = true) : d.armed ≠ 0 := by intro h0; rw [goes_armed h0] at h; cases h
end Wal
end Go.Proofs.YtpjpknndfhablaaGreat
namespace Go.Proofs.YtpjpknndfhablaaGreat
namespace Wal
theorem Sits.len {d : DS} {f : Bool} {g : Nat} {snap : List UInt8} {rs : List (List UInt8)} (h : Sits d f g snap rs) : 20 + snap.length + (frames rs).length ≤ (d.base f).length := by
 obtain ⟨x, k, _, _, hf⟩ := h.file
 rw [hf]; simp [head_length]
theorem tick_base (d : DS) (f : Bool) : d.tick.base f = d.base f := by cases f <;> rfl
/-- Behind the first cut of an opening. -/
theorem cutEnd_cases {d : DS} {f : Bool} {g : Nat} {snap : List UInt8} {rs : List (List UInt8)} (h : Sits d f g snap rs) (hd : d.dead = false) {r : DS × Int} (hr : cutEnd d f (20 + snap.length + (frames rs).length) = r) :
  (r.2 = 2 ∧ r.1.dead = true ∧ Sits r.1 f g snap rs ∧ d.armed ≠ 0) ∨
   (r.2 = 0 ∧ r.1.dead = false ∧ r.1.u = [] ∧ r.1.base f = head g snap ++ frames rs ∧ r.1.base (!f) = d.base (!f) ∧ (d.armed = 0 → r.1.armed = 0)) := by
 obtain ⟨x, k, hx, hk, hf⟩ := h.file
 subst hr
 unfold cutEnd
 by_cases hp : 20 + snap.length + (frames rs).length < (d.file f).length
 ·rw [if_pos hp]
  rcases cut_cases h.u hd (f := f) h.len with ⟨hg, hc⟩ | ⟨hg, hc⟩
  ·right
   have hc' : d.cut (DS.fi f) ((20 + snap.length + (frames rs).length : Nat) : Int) = (d.tick.short f (20 + snap.length + (frames rs).length), 0) := hc
   rw [hc']
   obtain ⟨b1, b2, b3, b4, b5⟩ := short_base d.tick f (20 + snap.length + (frames rs).length)
   refine ⟨rfl, by rw [b4]; exact hd, by rw [b3]; exact h.u, ?_, by rw [b2, tick_base], fun h0 => by rw [b5]; simp [DS.tick, h0]⟩
   rw [b1, tick_base, hf, ← List.append_assoc, List.take_left' (by simp [head_length])]
  ·left
   have hc' : d.cut (DS.fi f) ((20 + snap.length + (frames rs).length : Nat) : Int) = (d.tick.die d.keep, 2) := hc
   rw [hc']
   exact ⟨rfl, rfl, h.same rfl (fun q => by rw [DS.die_tick]; exact die_base h.u _ q), goes_true hg⟩
 ·rw [if_neg hp]
  right
  have hk0 : (frame x).take k = [] := by
   rw [file_base h.u, hf] at hp
   simp only [List.length_append, List.length_take, head_length] at hp
   have hm : min k (frame x).length = 0 := by omega
   apply List.eq_nil_of_length_eq_zero; rw [List.length_take]; exact hm
  exact ⟨rfl, hd, h.u, by rw [hf, hk0, List.append_nil], rfl, fun h0 => h0⟩
theorem cutOther_cases {d : DS} {f : Bool} (hu : d.u = []) (hd : d.dead = false) {other : List UInt8} (ho : d.base f = other) {r : DS × Int} (hr : cutOther d f other = r) :
  (r.2 = 2 ∧ r.1.dead = true ∧ r.1.u = [] ∧ (∀ q, r.1.base q = d.base q) ∧ d.armed ≠ 0) ∨
   (r.2 = 0 ∧ r.1.dead = false ∧ r.1.u = [] ∧ r.1.base f = [] ∧ r.1.base (!f) = d.base (!f) ∧ (d.armed = 0 → r.1.armed = 0)) := by
 subst hr
 unfold cutOther
 by_cases hn : other ≠ []
 ·rw [if_pos hn]
  rcases cut_cases hu hd (f := f) (p := 0) (by omega) with ⟨hg, hc⟩ | ⟨hg, hc⟩
  ·right
   have hc' : d.cut (DS.fi f) 0 = (d.tick.short f 0, 0) := hc
   rw [hc']
   obtain ⟨b1, b2, b3, b4, b5⟩ := short_base d.tick f 0
   exact ⟨rfl, by rw [b4]; exact hd, by rw [b3]; exact hu, by rw [b1]; rfl, by rw [b2, tick_base], fun h0 => by rw [b5]; simp [DS.tick, h0]⟩
  ·left
   have hc' : d.cut (DS.fi f) 0 = (d.tick.die d.keep, 2) := hc
   rw [hc']
   exact ⟨rfl, rfl, rfl, fun q => by rw [DS.die_tick]; exact die_base hu _ q, goes_true hg⟩
 ·rw [if_neg hn]
  right
  exact ⟨rfl, hd, hu, by rw [ho]; simpa using hn, rfl, fun h0 => h0⟩
/-- What an opening tells of what sits there: it, and all is clean; or the power goes, and it sits there still. -/
theorem open_sits {d : DS} {f : Bool} {g : Nat} {snap : List UInt8} {rs : List (List UInt8)} (h : Sits d f g snap rs) (hd : d.dead = false) {r : Option Opened × DS × Int} (hr : open_ d = r) :
  (r.1 = none ∧ r.2.2 = 2 ∧ r.2.1.dead = true ∧ Sits r.2.1 f g snap rs ∧ d.armed ≠ 0) ∨
   (r.1 = some ⟨{ f := f, g := g, n := rs.length, dead := false }, snap, rs⟩ ∧ r.2.2 = 0 ∧ r.2.1.dead = false ∧ Clean r.2.1 f g snap rs ∧ (d.armed = 0 → r.2.1.armed = 0)) := by
 obtain ⟨e1, e2⟩ := h.shown
 have hg := h.g1
 subst hr
 unfold open_
 rw [if_neg (by simp [hd]), e1, if_neg (by simp; omega), e2, h.best]
 simp only
 have ho : d.file (!f) = d.base (!f) := file_base h.u _
 rcases cutEnd_cases h hd rfl with ⟨r1, r2, r3, r4⟩ | ⟨r1, r2, r3, r4, r5, r6⟩
 ·left
  have hc : cuts d f (20 + snap.length + (frames rs).length) = cutEnd d f (20 + snap.length + (frames rs).length) := by unfold cuts; rw [if_pos (by rw [r1]; decide)]
  rw [hc, if_pos (by rw [r1]; decide)]
  exact ⟨rfl, rfl, r2, r3, r4⟩
 ·have hc : cuts d f (20 + snap.length + (frames rs).length) = cutOther (cutEnd d f (20 + snap.length + (frames rs).length)).1 (!f) (d.file (!f)) := by unfold cuts; rw [if_neg (by rw [r1]; decide)]
  rw [hc]
  have hs : Sits (cutEnd d f (20 + snap.length + (frames rs).length)).1 f g snap rs :=
   ⟨r3, h.g1, h.g2, h.sl, h.short, ⟨[], 0, by simp, by simp [frame_length], by simp [r4]⟩, by rw [r5]; exact h.other⟩
  rcases cutOther_cases r3 r2 (f := !f) (other := d.file (!f)) (by rw [ho]; exact r5) rfl with ⟨q1, q2, q3, q4, q5⟩ | ⟨q1, q2, q3, q4, q5, q6⟩
  ·left
   rw [if_pos (by rw [q1]; decide)]
   exact ⟨rfl, rfl, q2, hs.same q3 q4, fun h0 => q5 (r6 h0)⟩
  ·right
   rw [if_neg (by rw [q1]; decide)]
   exact ⟨rfl, rfl, q2, ⟨q3, h.g1, h.g2, h.sl, h.short, by simp only [Bool.not_not] at q5; exact q5.trans r4, q4⟩, fun h0 => q6 (r6 h0)⟩

/-- An open log on its disk: the first m records are safe. -/
structure Live (l : LS) (d : DS) (snap : List UInt8) (rs : List (List UInt8)) (m : Nat) : Prop where
 ld : l.dead = false
 dd : d.dead = false
 g1 : 1 ≤ l.g
 g2 : l.g ≤ 4611686018427387904
 n : l.n = rs.length
 sl : snap.length ≤ 524288
 short : Short rs
 le : m ≤ rs.length
 file : d.base l.f = head l.g snap ++ frames (rs.take m)
 u : d.u = (frames (rs.drop m)).map (l.f, ·)
 other : d.base (!l.f) = []
theorem Short.take {rs : List (List UInt8)} (h : Short rs) (j : Nat) : Short (rs.take j) := fun s hs => h s (List.mem_of_mem_take hs)
theorem Short.drop {rs : List (List UInt8)} (h : Short rs) (j : Nat) : Short (rs.drop j) := fun s hs => h s (List.mem_of_mem_drop hs)
theorem Short.snoc {rs : List (List UInt8)} (h : Short rs) {s : List UInt8} (hs : s.length ≤ 65536) : Short (rs ++ [s]) := fun x hx => by
 rcases List.mem_append.1 hx with hx | hx
 ·exact h x hx
 ·simp at hx; subst hx; exact hs
/-- Unsafe bytes of one file alone: what is left of them. -/
theorem die_one {d : DS} {f : Bool} {b : List UInt8} (hu : d.u = b.map (f, ·)) (k : Nat) : (d.die k).base f = d.base f ++ b.take k ∧ (d.die k).base (!f) = d.base (!f) ∧ (d.die k).u = [] := by
 have h1 : DS.of f (d.u.take k) = b.take k := by rw [hu, ← List.map_take]; exact DS.of_map_same f _
 have h2 : DS.of (!f) (d.u.take k) = [] := by rw [hu, ← List.map_take]; exact DS.of_map_other (!f) f _ (by cases f <;> simp)
 cases f
 ·exact ⟨by show d.left k false = _; rw [DS.left, h1], by show d.left k true = _; rw [DS.left]; simp only [Bool.not_false] at h2; rw [h2, List.append_nil]; rfl, rfl⟩
 ·exact ⟨by show d.left k true = _; rw [DS.left, h1], by show d.left k false = _; rw [DS.left]; simp only [Bool.not_true] at h2; rw [h2, List.append_nil]; rfl, rfl⟩
/-- Unsafe frames behind a log: some of the records are left. -/
theorem sits_die {d : DS} {f : Bool} {g : Nat} {snap : List UInt8} {rs : List (List UInt8)} {m : Nat} (g1 : 1 ≤ g) (g2 : g ≤ 4611686018427387904) (sl : snap.length ≤ 524288) (short : Short rs) (hm : m ≤ rs.length)
  (file : d.base f = head g snap ++ frames (rs.take m)) (hu : d.u = (frames (rs.drop m)).map (f, ·)) (other : d.base (!f) = []) (k : Nat) : ∃ j, m ≤ j ∧ j ≤ rs.length ∧ Sits (d.die k) f g snap (rs.take j) := by
 obtain ⟨h1, h2, h3⟩ := die_one hu k
 obtain ⟨j, x, q, a1, a2, a3, a4⟩ := take_frames (rs.drop m) (short.drop m) k
 rw [List.length_drop] at a1
 refine ⟨m + j, by omega, by omega, h3, g1, g2, sl, short.take _, ⟨x, q, a2, a3, ?_⟩, by rw [h2, other, counts_nil]; exact g1⟩
 rw [h1, file, a4, List.append_assoc, ← List.append_assoc (frames _) (frames _), ← frames_append, List.take_add]
theorem Live.crash {l : LS} {d : DS} {snap : List UInt8} {rs : List (List UInt8)} {m : Nat} (h : Live l d snap rs m) (k : Nat) : ∃ j, m ≤ j ∧ j ≤ rs.length ∧ Sits (d.die k) l.f l.g snap (rs.take j) :=
 sits_die h.g1 h.g2 h.sl h.short h.le h.file h.u h.other k
theorem of_u {l : LS} {d : DS} {snap : List UInt8} {rs : List (List UInt8)} {m : Nat} (h : Live l d snap rs m) : d.file l.f = head l.g snap ++ frames rs ∧ d.file (!l.f) = [] := by
 constructor
 ·rw [DS.file, h.u, DS.of_map_same, h.file, List.append_assoc, ← frames_append, List.take_append_drop]
 ·rw [DS.file, h.u, DS.of_map_other _ _ _ (by cases l.f <;> simp), h.other]; rfl
/-- An append: it is refused and nothing has changed; or it is done; or the power goes, and some beginning of the records is left. -/
theorem append_live {l : LS} {d : DS} {snap : List UInt8} {rs : List (List UInt8)} {m : Nat} (h : Live l d snap rs m) (s : List UInt8) {r : LS × DS × Int} (hr : append l d s = r) :
  ((r.2.2 = 101 ∨ r.2.2 = 102) ∧ r.1 = l ∧ r.2.1 = d) ∨
  (r.2.2 = 0 ∧ Live r.1 r.2.1 snap (rs ++ [s]) m ∧ (d.armed = 0 → r.2.1.armed = 0)) ∨
  (r.2.2 = 2 ∧ r.1.dead = true ∧ r.2.1.dead = true ∧ d.armed ≠ 0 ∧ ∃ j, m ≤ j ∧ j ≤ rs.length + 1 ∧ Sits r.2.1 l.f l.g snap ((rs ++ [s]).take j)) := by
 subst hr
 unfold append
 rw [if_neg (by simp [h.ld])]
 by_cases h1 : 65536 < s.length
 ·rw [if_pos h1]; exact .inl ⟨.inl rfl, rfl, rfl⟩
 by_cases h2 : 1048576 < d.size l.f + 8 + s.length
 ·rw [if_neg h1, if_pos h2]; exact .inl ⟨.inr rfl, rfl, rfl⟩
 rw [if_neg h1, if_neg h2]
 have hshort := h.short.snoc (s := s) (by omega)
 have hm := h.le
 have hlay : (d.tick.lay l.f (frame s)).base l.f = head l.g snap ++ frames ((rs ++ [s]).take m) ∧ (d.tick.lay l.f (frame s)).u = (frames ((rs ++ [s]).drop m)).map (l.f, ·) ∧ (d.tick.lay l.f (frame s)).base (!l.f) = [] := by
  refine ⟨?_, ?_, ?_⟩
  ·have : (d.tick.lay l.f (frame s)).base l.f = d.base l.f := by cases l.f <;> rfl
   rw [this, h.file, List.take_append_of_le_length hm]
  ·show d.u ++ (frame s).map (l.f, ·) = _
   rw [h.u, List.drop_append_of_le_length hm, frames_append, List.map_append]; simp [frames]
  ·have : (d.tick.lay l.f (frame s)).base (!l.f) = d.base (!l.f) := by cases l.f <;> rfl
   rw [this, h.other]
 obtain ⟨k1, k2, k3⟩ := hlay
 have ha : d.append (DS.fi l.f) (frame s) = if d.goes then ((d.tick.lay l.f (frame s)).die d.keep, 2) else (d.tick.lay l.f (frame s), 0) := by
  unfold DS.append
  rw [if_neg (by simp [h.dd]), DS.fileNo_of]
  simp only
  rw [if_neg (by rw [frame_length]; omega)]
 rw [ha]
 cases hg : d.goes
 ·refine .inr (.inl ⟨rfl, ⟨h.ld, h.dd, h.g1, h.g2, by simp [h.n], h.sl, hshort, by simp; omega, k1, k2, k3⟩, fun h0 => ?_⟩)
  show d.armed - 1 = 0
  omega
 ·refine .inr (.inr ⟨rfl, rfl, rfl, goes_true hg, ?_⟩)
  have := sits_die (d := d.tick.lay l.f (frame s)) h.g1 h.g2 h.sl hshort (m := m) (by simp; omega) k1 k2 k3 d.keep
  simpa using this
theorem saved_base (d : DS) (f : Bool) : d.saved.base f = d.file f := by cases f <;> rfl
/-- A sync. -/
theorem sync_live {l : LS} {d : DS} {snap : List UInt8} {rs : List (List UInt8)} {m : Nat} (h : Live l d snap rs m) {r : LS × DS × Int} (hr : sync l d = r) :
  (r.2.2 = 0 ∧ r.1 = l ∧ Live l r.2.1 snap rs rs.length ∧ (d.armed = 0 → r.2.1.armed = 0)) ∨
  (r.2.2 = 2 ∧ r.1.dead = true ∧ r.2.1.dead = true ∧ d.armed ≠ 0 ∧ ∃ j, m ≤ j ∧ j ≤ rs.length ∧ Sits r.2.1 l.f l.g snap (rs.take j)) := by
 subst hr
 unfold sync
 rw [if_neg (by simp [h.ld])]
 have hs : d.sync = if d.goes then (d.tick.die d.keep, 2) else (d.tick.saved, 0) := by unfold DS.sync; rw [if_neg (by simp [h.dd])]
 obtain ⟨f1, f2⟩ := of_u h
 rw [hs]
 cases hg : d.goes
 ·refine .inl ⟨rfl, rfl, ⟨h.ld, h.dd, h.g1, h.g2, h.n, h.sl, h.short, Nat.le_refl _, ?_, ?_, ?_⟩, fun h0 => ?_⟩
  ·show d.tick.saved.base l.f = _
   rw [saved_base, List.take_length]; exact f1
  ·show [] = _
   rw [List.drop_length]; rfl
  ·show d.tick.saved.base (!l.f) = _
   rw [saved_base]; exact f2
  ·show d.armed - 1 = 0
   omega
 ·refine .inr ⟨rfl, rfl, rfl, goes_true hg, ?_⟩
  show ∃ j, m ≤ j ∧ j ≤ rs.length ∧ Sits (d.tick.die d.keep) l.f l.g snap (rs.take j)
  rw [DS.die_tick]; exact h.crash _
/-- The power goes between two calls. -/
theorem new_live {r : Option LS × DS × Int} (hr : new {} = r) : ∃ l, r.1 = some l ∧ r.2.2 = 0 ∧ Live l r.2.1 [] [] 0 ∧ r.2.1.armed = 0 := by
 subst hr
 have e : new {} = (some { f := false, g := 1, n := 0, dead := false }, { a := head 1 [], armed := 0 }, 0) := by rfl
 rw [e]
 exact ⟨_, rfl, rfl, ⟨rfl, rfl, by decide, by decide, rfl, by simp, (fun _ h => by cases h), Nat.le_refl _, by simp [DS.base, frames], by simp [frames], rfl⟩, rfl⟩
/-! Room. -/
end Wal
end Go.Proofs.YtpjpknndfhablaaGreat
namespace Go.Proofs.YtpjpknndfhablaaGreat
open Go.RowKit
def diskT : List TypeId := [89, 106]
def logT : List TypeId := [89, 106, 148]
theorem DiskNew.of_below {w0 w1 w : World} {c : Nat} {d : DS} {m : Nat} (h : DiskNew w1 w c d m) (hb : Below w0.heap.size w0 w1) : DiskNew w0 w c d m := by
 obtain ⟨hc, hb1, rb, h, hr⟩ := h
 exact ⟨Nat.le_trans hb.size hc, hb.trans (hb1.mono hb.size), rb, h, fun k hk => Nat.le_trans hb.size (hr k hk)⟩
section
variable {w0 w : World} {c : Nat} {d : DS} {m : Nat} (h : DiskNew w0 w c d m)
include h
end
/-- In w a log in block x over the disk in block c, both made since w0. -/
structure One (w0 w : World) (x c : Nat) (l : Wal.LS) (d : DS) (m : Nat) : Prop where
 x0 : w0.heap.size ≤ x
 log : LogAt w x c l
 disk : DiskNew w0 w c d m
theorem One.below {w0 w w' : World} {x c : Nat} {l : Wal.LS} {d : DS} {m : Nat} (h : One w0 w x c l d m) (hb : Below w.heap.size w w') : One w0 w' x c l d m := ⟨h.x0, h.log.below hb, h.disk.below hb⟩
theorem One.mono {w0 w : World} {x c : Nat} {l : Wal.LS} {d : DS} {m n : Nat} (h : One w0 w x c l d m) (hmn : m ≤ n) : One w0 w x c l d n := ⟨h.x0, h.log, h.disk.mono hmn⟩
/-- What a piece of work leaves of it. -/
def OneLeft (w0 w : World) (x c : Nat) (l' : Wal.LS) (d d' : DS) (m' : Nat) (w' : World) : Prop :=
 One w0 w' x c l' d' m' ∧ KeepsOff logT w w' ∧ (d'.dead = true → d.dead = false → DiskNew w0 w' c d' 0)
theorem One.left {w0 w w' : World} {x c : Nat} {l l' : Wal.LS} {d d' : DS} {m m' : Nat} {rb : Option Nat} (x0 : w0.heap.size ≤ x) (hl : LogAt w x c l) (hc : w0.heap.size ≤ c) (hb : Below w0.heap.size w0 w) (hd : DiskAt w c d m rb) (hr : ∀ k, rb = some k → w0.heap.size ≤ k)
  (hw : Worked x c l' d d' m' rb w w') : OneLeft w0 w x c l' d d' m' w' := by
 obtain ⟨rb', h1, h2, h3⟩ := hw.disk
 have hold : Below w0.heap.size w0 w' := hb.trans (hw.touch.below hb.size fun k hk ho => by
  rcases ho with (rfl | ho) | rfl
  ·omega
  ·have := hr k ho; omega
  ·omega)
 have hr' : ∀ k, rb' = some k → w0.heap.size ≤ k := fun k hk => (h2 k hk).elim (hr k) (Nat.le_trans hb.size)
 refine ⟨⟨x0, hw.log, hc, hold, rb', h1, hr'⟩, .of_touch (hl.typed3 hd) hw.touch, fun a b => ?_⟩
 have h4 := h3 a b
 subst h4
 exact ⟨hc, hold, none, h1.fresh, fun k hk => by cases hk⟩
section
variable {w0 w : World} {x c : Nat} {l : Wal.LS} {d : DS} {m : Nat} (h : One w0 w x c l d m)
include h
end
end Go.Proofs.YtpjpknndfhablaaGreat
namespace Go.Proofs.YtpjpknndfhablaaGreat
open Go.RowKit
/-- The disk alone has turned. -/
theorem Scn.disked {w w' : World} {x lg c mb : Nat} {rb rb' : Option Nat} {s : SS} {d d' : DS} {m m' : Nat} {rows : List TRow} (h : Scn w x lg c mb rb s d m rows) (hd : DiskAt w' c d' m' rb') (hn : Newer w rb rb') (ht : Touch (own2 c rb) w w') :
  Scn w' x lg c mb rb' s d' m' rows ∧ STurn w w' (Foot11 x lg c mb rb rows) (Foot11 x lg c mb rb' rows) := by
 have ht3 : Touch (fun k => own3 c rb lg k ∨ k = x) w w' := ht.mono (fun _ _ e => .inl (.inl e))
 have hx : ¬ own2 c rb x := fun e => (h.store.apart h.disk).1 (.inl e)
 have hl : ¬ own2 c rb lg := h.store.log.apart h.disk
 have hm : ¬ own2 c rb mb := fun e => (h.store.apart h.disk).2.1 (.inl e)
 refine ⟨⟨h.store.touch ht hx hl hm, hd, fun i r hi => ⟨(h.txs i r hi).1.worked h.store h.disk ht3, (h.txs i r hi).2⟩, h.apart⟩, ht.mono (fun _ _ e => .inl (.inl e)), fun k hk => ?_⟩
 rcases hk with ((rfl | hk) | rfl) | hk
 ·exact .inl (.inl (.inl (.inl rfl)))
 ·rcases hn k hk with e | e
  ·exact .inl (.inl (.inl (.inr e)))
  ·exact .inr e
 ·exact .inl (.inl (.inr rfl))
 ·exact .inl (.inr hk)
section
variable {w : World} {F : Nat → Prop} {x c : Nat} {s : SS} {d : DS} {m : Nat} {ts : List (Nat × TS)} (h : Sc w F x c s d m ts)
include h
theorem arm_sc (n k : Int) (hn : n ≤ 9223372036854775807) (hk : k ≤ 9223372036854775807) : Calls Tryz.prog 28 #[.pointer (some ⟨c, 0, none⟩), .int .i64 n, .int .i64 k] w fun e w' => e = .returned (.int .i64 (d.arm n k).2) ∧ ∃ F', Sc w' F' x c s (d.arm n k).1 m ts ∧ STurn w w' F F' := by
 obtain ⟨lg, mb, rb, rows, rfl, h2, h3⟩ := h
 refine (arm_any c w d m rb n k h2.disk hn hk).mono ?_
 rintro e w' ⟨he, h', ht⟩
 obtain ⟨a, b⟩ := h2.disked h' (Newer.refl _ _) ht
 exact ⟨he, _, ⟨lg, mb, rb, rows, rfl, a, h3⟩, b⟩
theorem revive_sc : Calls Tryz.prog 32 #[.pointer (some ⟨c, 0, none⟩)] w fun e w' => e = .returned (.tuple #[]) ∧ ∃ F', Sc w' F' x c s d.revive m ts ∧ STurn w w' F F' := by
 obtain ⟨lg, mb, rb, rows, rfl, h2, h3⟩ := h
 refine (revive_any c w d m rb h2.disk).mono ?_
 rintro e w' ⟨he, h', ht⟩
 obtain ⟨a, b⟩ := h2.disked h' (Newer.refl _ _) ht
 exact ⟨he, _, ⟨lg, mb, rb, rows, rfl, a, h3⟩, b⟩
theorem crash_sc (k : Int) (hk : k ≤ 9223372036854775807) : Calls Tryz.prog 31 #[.pointer (some ⟨c, 0, none⟩), .int .i64 k] w fun e w' => e = .returned (.int .i64 (d.crash k).2) ∧ ∃ F', Sc w' F' x c s (d.crash k).1 m ts ∧ STurn w w' F F' ∧ ((d.crash k).1.dead = true → d.dead = false → Sc w' F' x c s (d.crash k).1 0 ts) := by
 obtain ⟨lg, mb, rb, rows, rfl, h2, h3⟩ := h
 refine (crash_anyN c w d m rb k h2.disk hk).mono ?_
 rintro e w' ⟨he, rb', h', hn, ht, hz⟩
 obtain ⟨a, b⟩ := h2.disked h' hn ht
 refine ⟨he, _, ⟨lg, mb, rb', rows, rfl, a, h3⟩, b, fun e1 e2 => ?_⟩
 obtain rfl := hz e1 e2
 exact ⟨lg, mb, none, rows, rfl, ⟨a.store, a.disk.fresh, a.txs, a.apart⟩, h3⟩
end
end Go.Proofs.YtpjpknndfhablaaGreat
namespace Go.Proofs.YtpjpknndfhablaaGreat
open Go.RowKit
/-- In w a store in block x over the disk in block c, both made since w0. -/
def Sone (w0 w : World) (x c : Nat) (s : SS) (d : DS) (m : Nat) : Prop :=
 ∃ lg mb rb, StoAt w x lg c mb s ∧ DiskAt w c d m rb ∧ Below w0.heap.size w0 w ∧ w0.heap.size ≤ x ∧ w0.heap.size ≤ lg ∧ w0.heap.size ≤ mb ∧ w0.heap.size ≤ c ∧ (∀ k, rb = some k → w0.heap.size ≤ k)
/-- .. and a transaction of it in block y. -/
def Stx (w0 w : World) (x c : Nat) (s : SS) (d : DS) (m : Nat) (y : Nat) (t : TS) : Prop :=
 ∃ lg mb rb pm wm, StoAt w x lg c mb s ∧ DiskAt w c d m rb ∧ Below w0.heap.size w0 w ∧ w0.heap.size ≤ x ∧ w0.heap.size ≤ lg ∧ w0.heap.size ≤ mb ∧ w0.heap.size ≤ c ∧ (∀ k, rb = some k → w0.heap.size ≤ k) ∧
  TxAt w x y pm wm t ∧ pm ≠ some mb ∧ w0.heap.size ≤ y ∧ w0.heap.size ≤ wm ∧ ∀ b, pm = some b → w0.heap.size ≤ b
section
variable {w0 w : World} {x c : Nat} {s : SS} {d : DS} {m : Nat}
theorem Sone.below {w' : World} (h : Sone w0 w x c s d m) (hb : Below w.heap.size w w') : Sone w0 w' x c s d m := by
 obtain ⟨lg, mb, rb, h1, h2, h3, h4⟩ := h
 exact ⟨lg, mb, rb, h1.below hb, h2.below hb, h3.trans (hb.mono h3.size), h4⟩
theorem Stx.below {y : Nat} {t : TS} {w' : World} (h : Stx w0 w x c s d m y t) (hb : Below w.heap.size w w') : Stx w0 w' x c s d m y t := by
 obtain ⟨lg, mb, rb, pm, wm, h1, h2, h3, h4, h5, h6, h7, h8, h9, h10⟩ := h
 exact ⟨lg, mb, rb, pm, wm, h1.below hb, h2.below hb, h3.trans (hb.mono h3.size), h4, h5, h6, h7, h8, h9.below hb, h10⟩
theorem Stx.one {y : Nat} {t : TS} (h : Stx w0 w x c s d m y t) : Sone w0 w x c s d m := by
 obtain ⟨lg, mb, rb, pm, wm, h1, h2, h3, h4, h5, h6, h7, h8, _⟩ := h
 exact ⟨lg, mb, rb, h1, h2, h3, h4, h5, h6, h7, h8⟩
theorem Sone.old (h : Sone w0 w x c s d m) : Below w0.heap.size w0 w := by obtain ⟨lg, mb, rb, _, _, h3, _⟩ := h; exact h3
theorem Sone.disk (h : Sone w0 w x c s d m) : DiskNew w0 w c d m := by obtain ⟨lg, mb, rb, _, h2, h3, _, _, _, h7, h8⟩ := h; exact ⟨h7, h3, rb, h2, h8⟩
theorem Sone.ok (h : Sone w0 w x c s d m) : d.Ok ∧ Sto.Good s.ps ∧ Sto.fits s.ps = true := by obtain ⟨lg, mb, rb, h1, h2, _⟩ := h; exact ⟨h2.1, h1.good, h1.fits⟩
/-- Behind a piece of work on the store. -/
theorem Sone.worked {lg mb : Nat} {rb : Option Nat} {s' : SS} {d' : DS} {m' : Nat} {w' : World} (h3 : Below w0.heap.size w0 w) (h4 : w0.heap.size ≤ x) (h5 : w0.heap.size ≤ lg) (h6 : w0.heap.size ≤ mb) (h7 : w0.heap.size ≤ c) (h8 : ∀ k, rb = some k → w0.heap.size ≤ k)
  (hw : SWorked x lg c mb s' d d' m' rb w w') : Sone w0 w' x c s' d' m' ∧ (d'.dead = true → d.dead = false → Sone w0 w' x c s' d' 0) := by
 obtain ⟨⟨mb', a1, a2⟩, ⟨rb', b1, b2, b3⟩, c1⟩ := hw
 have hold : Below w0.heap.size w0 w' := h3.trans (c1.below h3.size fun k hk ho => by
  rcases ho with ((rfl | ho) | rfl) | rfl
  ·omega
  ·have := h8 k ho; omega
  ·omega
  ·omega)
 have hmb : w0.heap.size ≤ mb' := by rcases a2 with rfl | a2; exact h6; exact Nat.le_trans h3.size a2
 have hr' : ∀ k, rb' = some k → w0.heap.size ≤ k := fun k hk => (b2 k hk).elim (h8 k) (Nat.le_trans h3.size)
 refine ⟨⟨lg, mb', rb', a1, b1, hold, h4, h5, hmb, h7, hr'⟩, fun e1 e2 => ?_⟩
 obtain rfl := b3 e1 e2
 exact ⟨lg, mb', none, a1, b1.fresh, hold, h4, h5, hmb, h7, hr'⟩
theorem sync_sone (h : Sone w0 w x c s d m) : Calls Tryz.prog 41 #[.pointer (some ⟨x, 0, none⟩)] w fun e w' => e = .returned (.int .i64 (s.sync d).2.2) ∧ Sone w0 w' x c (s.sync d).1 (s.sync d).2.1 m ∧ ((s.sync d).2.1.dead = true → d.dead = false → Sone w0 w' x c (s.sync d).1 (s.sync d).2.1 0) := by
 obtain ⟨lg, mb, rb, h1, h2, h3, h4, h5, h6, h7, h8⟩ := h
 exact (sync11_any x lg c mb w s d m rb h1 h2).mono fun e w' ⟨he, hw⟩ => ⟨he, Sone.worked h3 h4 h5 h6 h7 h8 hw⟩
theorem keys_sone (h : Sone w0 w x c s d m) : Calls Tryz.prog 42 #[.pointer (some ⟨x, 0, none⟩)] w fun e w' => e = .returned (.int .i64 s.ps.length) ∧ w' = w := by
 obtain ⟨lg, mb, rb, h1, _⟩ := h; exact keys11_any h1
theorem bytes_sone (h : Sone w0 w x c s d m) : Calls Tryz.prog 43 #[.pointer (some ⟨x, 0, none⟩)] w fun e w' => e = .returned (.int .i64 (Sto.size s.ps)) ∧ w' = w := by
 obtain ⟨lg, mb, rb, h1, _⟩ := h; exact bytes11_any h1
theorem get_sone (h : Sone w0 w x c s d m) (k : Sto.S) (hk : k.length ≤ maxLen) : Calls Tryz.prog 40 #[.pointer (some ⟨x, 0, none⟩), .string ⟨k.toArray⟩] w fun e w' => e = .returned (.tuple #[.string ⟨((Sto.get s.ps k).getD []).toArray⟩, .bool (Sto.here s.ps k)]) ∧ w' = w := by
 obtain ⟨lg, mb, rb, h1, _⟩ := h; exact get11_any h1 k hk
theorem scan_sone (h : Sone w0 w x c s d m) (k : Sto.S) (most : Int) (hm1 : most ≤ 9223372036854775807) (hm2 : -9223372036854775808 ≤ most) : Calls Tryz.prog 20 #[.pointer (some ⟨x, 0, none⟩), .string ⟨k.toArray⟩, .int .i64 most] w fun e w' => ∃ v, e = .returned v ∧ PairsAt w' v (Sto.scan s.ps k most.toNat) ∧ (∀ g, v.ownBlock = some g → w.heap.size ≤ g) ∧ Below w.heap.size w w' := by
 obtain ⟨lg, mb, rb, h1, _⟩ := h; exact scan11_any h1 k most hm1 hm2
theorem begin_sone (h : Sone w0 w x c s d m) : Calls Tryz.prog 23 #[.pointer (some ⟨x, 0, none⟩)] w fun e w' => ∃ y, e = .returned (.pointer (some ⟨y, 0, none⟩)) ∧ Stx w0 w' x c s d m y s.begin_ := by
 obtain ⟨lg, mb, rb, h1, h2, h3, h4, h5, h6, h7, h8⟩ := h
 refine (begin11_any x lg c mb w s h1).mono ?_
 rintro e w' ⟨y, pm, wm, rfl, ht, hy, hp, hw, hb⟩
 have hml := h1.map.lt
 exact ⟨y, rfl, lg, mb, rb, some pm, wm, h1.below hb, h2.below hb, h3.trans (hb.mono h3.size), h4, h5, h6, h7, h8, ht, fun e => (by have := Option.some.inj e; omega), Nat.le_trans h3.size hy, Nat.le_trans h3.size hw, fun b e => by cases e; exact Nat.le_trans h3.size hp⟩
/-- The store stays where only the transaction's own map turns. -/
theorem StoAt.aside {lg mb : Nat} {rb : Option Nat} {w' : World} {y wm : Nat} {pm : Option Nat} {t : TS} (h1 : StoAt w x lg c mb s) (h2 : DiskAt w c d m rb) (ht : TxAt w x y pm wm t) (hpm : pm ≠ some mb) (hT : Touch (fun b => pm = some b) w w') : StoAt w' x lg c mb s ∧ DiskAt w' c d m rb := by
 cases pm with
 | none => exact ⟨h1.touch hT (by simp) (by simp) (by simp), h2.touch hT (fun _ _ e => by cases e)⟩
 | some pb =>
  have hf := h1.farMap h2 (l := t.now) ht.now
  exact ⟨h1.touch hT (fun e => hf (.inr (Option.some.inj e))) (fun e => hf (.inl (.inr (Option.some.inj e)))) (fun e => hpm e), h2.touch hT (fun k hk e => hf (.inl (.inl ((Option.some.inj e) ▸ hk))))⟩
theorem Stx.turned {y : Nat} {t t' : TS} {w' : World} {lg mb : Nat} {rb pm : Option Nat} {wm : Nat} (h1 : StoAt w x lg c mb s) (h2 : DiskAt w c d m rb) (h3 : Below w0.heap.size w0 w) (h4 : w0.heap.size ≤ x) (h5 : w0.heap.size ≤ lg) (h6 : w0.heap.size ≤ mb) (h7 : w0.heap.size ≤ c) (h8 : ∀ k, rb = some k → w0.heap.size ≤ k)
  (ht : TxAt w x y pm wm t) (hpm : pm ≠ some mb) (hy : w0.heap.size ≤ y) (hw : w0.heap.size ≤ wm) (hp : ∀ b, pm = some b → w0.heap.size ≤ b) (ht' : TxAt w' x y pm wm t') (hT : Touch (fun b => pm = some b) w w') : Stx w0 w' x c s d m y t' := by
 obtain ⟨a1, a2⟩ := h1.aside h2 ht hpm hT
 exact ⟨lg, mb, rb, pm, wm, a1, a2, h3.trans (hT.below h3.size fun k hk e => by have := hp k e; omega), h4, h5, h6, h7, h8, ht', hpm, hy, hw, hp⟩
end
section
variable {w0 w : World} {x c : Nat} {s : SS} {d : DS} {m : Nat} {y : Nat} {t : TS} (h : Stx w0 w x c s d m y t)
include h
theorem put_stx (k v : Sto.S) (hk : k.length ≤ maxLen) (hv : v.length ≤ maxLen) (hl : t.now.length < maxLen) : Calls Tryz.prog 24 #[.pointer (some ⟨y, 0, none⟩), .string ⟨k.toArray⟩, .string ⟨v.toArray⟩] w fun e w' => e = .returned (.int .i64 (t.put k v).2) ∧ Stx w0 w' x c s d m y (t.put k v).1 := by
 obtain ⟨lg, mb, rb, pm, wm, h1, h2, h3, h4, h5, h6, h7, h8, h9, h10, h11, h12, h13⟩ := h
 exact (put11_any h9 k v hk hv hl).mono fun e w' ⟨he, ht, hT⟩ => ⟨he, Stx.turned h1 h2 h3 h4 h5 h6 h7 h8 h9 h10 h11 h12 h13 ht hT⟩
theorem get_stx (k : Sto.S) (hk : k.length ≤ maxLen) : Calls Tryz.prog 39 #[.pointer (some ⟨y, 0, none⟩), .string ⟨k.toArray⟩] w fun e w' => e = .returned (.tuple #[.string ⟨((Sto.get t.now k).getD []).toArray⟩, .bool (Sto.here t.now k)]) ∧ w' = w := by
 obtain ⟨lg, mb, rb, pm, wm, h1, h2, h3, h4, h5, h6, h7, h8, h9, _⟩ := h
 exact txget11_any h9 k hk
theorem commit_stx (hm : m < 4999999999999) (hlg : s.l.g ≤ 4611686018427387904) (hln : s.l.n ≤ 4611686018427387904) (hl1 : t.now.length ≤ 4194304) (hl2 : t.was.length ≤ 4096) (hturn : s.turn ≤ 4611686018427387904) :
  Calls Tryz.prog 27 #[.pointer (some ⟨y, 0, none⟩)] w fun e w' => e = .returned (.int .i64 (s.commit t d).2.2) ∧ Stx w0 w' x c (s.commit t d).1 (s.commit t d).2.1 (m + 2) y (if t.over then t else t.ends) ∧ ((s.commit t d).2.1.dead = true → d.dead = false → Sone w0 w' x c (s.commit t d).1 (s.commit t d).2.1 0) := by
 obtain ⟨lg, mb, rb, pm, wm, h1, h2, h3, h4, h5, h6, h7, h8, h9, h10, h11, h12, h13⟩ := h
 refine (commit11_any x lg c mb y wm pm w s t d m rb h1 h2 h9 hm hlg hln hl1 hl2 hturn).mono ?_
 rintro e w' ⟨rfl, ⟨mb', a1, a2⟩, ⟨rb', b1, b2, b3⟩, c1, t1⟩
 have hold : Below w0.heap.size w0 w' := h3.trans (c1.below h3.size fun k hk ho => by
  rcases ho with ((rfl | ho) | rfl) | (rfl | rfl)
  ·omega
  ·have := h8 k ho; omega
  ·omega
  ·omega
  ·omega)
 have hmb : w0.heap.size ≤ mb' := by rcases a2 with rfl | a2; exact h6; exact Nat.le_trans h3.size a2
 have hr' : ∀ k, rb' = some k → w0.heap.size ≤ k := fun k hk => (b2 k hk).elim (h8 k) (Nat.le_trans h3.size)
 have hp' : ∀ b, (if t.over then pm else none) = some b → pm = some b := fun b e => by split at e; exact e; cases e
 refine ⟨rfl, ⟨lg, mb', rb', _, wm, a1, b1, hold, h4, h5, hmb, h7, hr', t1, fun e => ?_, h11, h12, fun b e => h13 b (hp' b e)⟩, fun e1 e2 => ?_⟩
 ·have e1 := hp' _ e
  rcases a2 with rfl | a2
  ·exact h10 e1
  ·have := (h9.now.lt) mb' e1
   omega
 ·obtain rfl := b3 e1 e2
  exact ⟨lg, mb', none, a1, b1.fresh, hold, h4, h5, hmb, h7, hr'⟩
end
/-- How Open ends on a disk that the call itself made. -/
theorem open_sone {w0 w : World} {c : Nat} {d : DS} {m : Nat} (h : DiskNew w0 w c d m) :
  Calls Tryz.prog 14 #[.pointer (some ⟨c, 0, none⟩)] w fun e w' => ∃ v, e = .returned (.tuple #[v, .int .i64 (SS.open_ d).2.2]) ∧ (∀ s, (SS.open_ d).1 = some s → ∃ x, v = .pointer (some ⟨x, 0, none⟩) ∧ Sone w0 w' x c s (SS.open_ d).2.1 m) ∧ ((SS.open_ d).1 = none → v = .pointer none) ∧
   DiskNew w0 w' c (SS.open_ d).2.1 m ∧ KeepsOff diskT w w' := by
 obtain ⟨hc, hb, rb, h, hr⟩ := h
 refine (open11_any c w d m rb h).mono ?_
 rintro e w' ⟨v, rfl, hs, hn, rb', h1, h2, h3, h4⟩
 have hD : DiskNew w0 w' c (SS.open_ d).2.1 m := .turn hc hb hr h1 h2 h3
 refine ⟨v, rfl, fun s e => ?_, hn, hD, .of_touch h.typed h3⟩
 obtain ⟨x, lg, mb, rfl, hst, a1, a2, a3⟩ := hs s e
 obtain ⟨_, hb', _⟩ := hD
 exact ⟨x, rfl, lg, mb, rb', hst, h1, hb', Nat.le_trans hb.size a1, Nat.le_trans hb.size a2, Nat.le_trans hb.size a3, hc, fun k hk => (h2 k hk).elim (hr k) (Nat.le_trans hb.size)⟩
end Go.Proofs.YtpjpknndfhablaaGreat
namespace Go.Proofs.YtpjpknndfhablaaGreat
open Go.RowKit
theorem Sc.aside {w w' : World} {F S : Nat → Prop} {x c : Nat} {s : SS} {d : DS} {m : Nat} {ts : List (Nat × TS)} (h : Sc w F x c s d m ts) (ht : Touch S w w') (hS : ∀ k, S k → ¬ F k) : Sc w' F x c s d m ts := by
 obtain ⟨lg, mb, rb, rows, rfl, h2, h3⟩ := h
 have off : ∀ k, Foot11 x lg c mb rb rows k → ¬ S k := fun k e hs => hS k hs e
 refine ⟨lg, mb, rb, rows, rfl, ⟨h2.store.touch ht (off x (.inr (.inl rfl))) (off lg (.inl (.inr rfl))) (off mb (.inr (.inr (.inl rfl)))), h2.disk.touch ht (fun k hk => off k (.inl (.inl hk))), fun i r hi => ⟨?_, (h2.txs i r hi).2⟩, h2.apart⟩, h3⟩
 have hm := List.mem_of_getElem? hi
 exact (h2.txs i r hi).1.touch ht (off _ (.inr (.inr (.inr ⟨r, hm, .inl rfl⟩)))) (off _ (.inr (.inr (.inr ⟨r, hm, .inr (.inr rfl)⟩)))) (fun b hb => off b (.inr (.inr (.inr ⟨r, hm, .inr (.inl hb)⟩))))
theorem Sone.sc' {w0 w : World} {x c : Nat} {s : SS} {d : DS} {m : Nat} (h : Sone w0 w x c s d m) : ∃ F, Sc w F x c s d m [] ∧ Since w0 w F := by
 obtain ⟨lg, mb, rb, h1, h2, h3, h4, h5, h6, h7, h8⟩ := h
 refine ⟨_, ⟨lg, mb, rb, [], rfl, ⟨h1, h2, fun i r hi => (by cases hi), fun i j r r' hi => (by cases hi)⟩, rfl⟩, h3, fun k hk => ?_⟩
 rcases hk with ((rfl | hk) | rfl) | rfl | rfl | ⟨r, hr, _⟩
 ·exact h7
 ·exact h8 k hk
 ·exact h5
 ·exact h4
 ·exact h6
 ·cases hr
/-- Is the disk's power gone? -/
theorem ddead_sc {w : World} {F : Nat → Prop} {x c : Nat} {s : SS} {d : DS} {m : Nat} {ts : List (Nat × TS)} (h : Sc w F x c s d m ts) : Calls Tryz.prog 30 #[.pointer (some ⟨c, 0, none⟩)] w fun e w' => e = .returned (.bool d.dead) ∧ w' = w := by
 obtain ⟨lg, mb, rb, rows, _, h2, _⟩ := h
 exact (dead_any c w d m rb h2.disk).mono fun _ _ h => ⟨h.1, h.2.symm⟩
theorem Kept.aside {w w' : World} {F S : Nat → Prop} {k : Nat} {o : Obj} (h : Kept w F k o) (ht : Touch S w w') (hS : ¬ S k) : Kept w' F k o := ⟨(ht.block k (heap_lt h.blk) hS).trans h.blk, h.off⟩
theorem KeptP.aside {w w' : World} {F S : Nat → Prop} {v : Value} {l : Sto.Pairs} (h : KeptP w F v l) (ht : Touch S w w') (hS : ∀ g, v.ownBlock = some g → ¬ S g) : KeptP w' F v l := ⟨h.pairs.touch ht hS, fun g e => ⟨(h.off g e).1, Nat.lt_of_lt_of_le (h.off g e).2 ht.size⟩⟩
end Go.Proofs.YtpjpknndfhablaaGreat
namespace Go.Proofs.YtpjpknndfhablaaGreat
open Go.RowKit
/-- A transaction of the document: its block, its two rows of pairs. -/
structure URow where
 u : Nat
 v1 : Value
 v2 : Value
 t : TS
/-- The blocks that the document's store turns. -/
def GD (z lg y : Nat) (us : List URow) : Nat → Prop := fun k => k = y ∨ k = lg ∨ k = z ∨ ∃ r ∈ us, k = r.u
structure Doc (w : World) (UA : Nat → Prop) (z lg y : Nat) (v : Value) (s : SS) (d : DS) (us : List URow) : Prop where
 st : w.heap[z]? = some (rstoreBlock lg v s)
 log : RlogAt w lg y s.l
 disk : ∃ ub, RefAt w y d ub
 kept : KeptP w UA v s.ps
 txs : ∀ (i : Nat) r, us[i]? = some r → w.heap[r.u]? = some (rtxBlock z r.v1 r.v2 r.t) ∧ KeptP w UA r.v1 r.t.was ∧ KeptP w UA r.v2 r.t.now
 ne : ∀ (i j : Nat) r r', us[i]? = some r → us[j]? = some r' → i ≠ j → r.u ≠ r'.u
 sub : ∀ k, GD z lg y us k → UA k
 lt : ∀ k, UA k → k < w.heap.size
/-- Blocks none of which holds a document's unsafe bytes. -/
def NoByte (w : World) (S : Nat → Prop) : Prop := ∀ k a t f, S k → w.heap[k]? = some (.cells a t f) → t ≠ 177
theorem RefAt.other {w w' : World} {y : Nat} {d : DS} {ub : Option Nat} (h : RefAt w y d ub) {S : Nat → Prop} (ht : Touch S w w') (hy : ¬ S y) (hn : NoByte w S) : RefAt w' y d ub := by
 refine h.touch ht (fun k hk hs => ?_)
 rcases hk with rfl | hk
 ·exact hy hs
 ·obtain ⟨_, us, hr, hrb⟩ := h
  rw [← hrb] at hk
  rcases hr.own.2 with ⟨hv, _⟩ | ⟨g, cap, cur, hv, _, hg, _⟩
  ·rw [hv] at hk; cases hk
  ·rw [hv] at hk
   have e1 : g = k := Option.some.inj hk
   subst e1
   exact hn g _ _ _ hs hg rfl
section
variable {w w' : World} {UA : Nat → Prop} {z lg y : Nat} {v : Value} {s : SS} {d : DS} {us : List URow}
theorem Doc.far (h : Doc w UA z lg y v s d us) : z ≠ y ∧ z ≠ lg ∧ ∀ (i : Nat) r, us[i]? = some r → r.u ≠ y ∧ r.u ≠ lg ∧ r.u ≠ z := by
 obtain ⟨ub, hd⟩ := h.disk
 obtain ⟨a, b⟩ := rst_far h.st h.log hd
 refine ⟨a, b, fun i r hi => ?_⟩
 have hx := (h.txs i r hi).1
 obtain ⟨_, us', hr, _⟩ := hd
 refine ⟨fun e => ?_, fun e => ?_, fun e => ?_⟩
 ·have := hr.blk; rw [← e, hx] at this; simp [refBlock, rtxBlock] at this
 ·have h2 : w.heap[lg]? = some (rlogBlock y s.l) := h.log
  rw [← e, hx] at h2; simp [rlogBlock, rtxBlock] at h2
 ·have := h.st; rw [← e, hx] at this; simp [rtxBlock, rstoreBlock] at this
theorem Doc.nobyte (h : Doc w UA z lg y v s d us) : NoByte w (GD z lg y us) := by
 obtain ⟨ub, hd⟩ := h.disk
 obtain ⟨_, us', hr, _⟩ := hd
 rintro k a t f (rfl | rfl | rfl | ⟨r, hm, rfl⟩) hk
 ·have := hr.blk; rw [hk] at this; simp only [refBlock, Option.some.injEq, Obj.cells.injEq] at this; rw [this.2.1]; decide
 ·have h2 : w.heap[k]? = some (rlogBlock y s.l) := h.log
  rw [hk] at h2; simp only [rlogBlock, Option.some.injEq, Obj.cells.injEq] at h2; rw [h2.2.1]; decide
 ·have := h.st; rw [hk] at this; simp only [rstoreBlock, Option.some.injEq, Obj.cells.injEq] at this; rw [this.2.1]; decide
 ·obtain ⟨i, hi⟩ := List.getElem?_of_mem hm
  have := (h.txs i r hi).1; rw [hk] at this; simp only [rtxBlock, Option.some.injEq, Obj.cells.injEq] at this; rw [this.2.1]; decide
/-- Others have worked: they turned none of these blocks. -/
theorem Doc.other (h : Doc w UA z lg y v s d us) {S UA' : Nat → Prop} (ht : Touch S w w') (hS : ∀ k, S k → UA k ∧ ¬ GD z lg y us k) (hn : NoByte w S) (hU : ∀ k, UA' k → UA k ∨ w.heap.size ≤ k) (hsub : ∀ k, GD z lg y us k → UA' k) (hlt : ∀ k, UA' k → k < w'.heap.size) : Doc w' UA' z lg y v s d us := by
 have off : ∀ k, GD z lg y us k → ¬ S k := fun k e hs => (hS k hs).2 e
 have kp : ∀ (x : Value) (l : Sto.Pairs), KeptP w UA x l → KeptP w' UA' x l := fun x l hk =>
  ⟨hk.pairs.touch ht (fun g hg e => (hk.off g hg).1 (hS g e).1), fun g hg => ⟨fun e => by rcases hU g e with e | e; exact (hk.off g hg).1 e; have := (hk.off g hg).2; omega, Nat.lt_of_lt_of_le (hk.off g hg).2 ht.size⟩⟩
 obtain ⟨ub, hd⟩ := h.disk
 exact ⟨(ht.block z (heap_lt h.st) (off z (.inr (.inr (.inl rfl))))).trans h.st, h.log.touch ht (off lg (.inr (.inl rfl))), ⟨ub, hd.other ht (off y (.inl rfl)) hn⟩, kp _ _ h.kept,
  fun i r hi => ⟨(ht.block r.u (heap_lt (h.txs i r hi).1) (off r.u (.inr (.inr (.inr ⟨r, List.mem_of_getElem? hi, rfl⟩))))).trans (h.txs i r hi).1, kp _ _ (h.txs i r hi).2.1, kp _ _ (h.txs i r hi).2.2⟩, h.ne, hsub, hlt⟩
theorem Doc.below (h : Doc w UA z lg y v s d us) (hb : Below w.heap.size w w') : Doc w' UA z lg y v s d us :=
 h.other (S := fun _ => False) (Touch.of_below hb) (fun _ e => e.elim) (fun _ _ _ _ e => e.elim) (fun _ e => .inl e) h.sub (fun k e => Nat.lt_of_lt_of_le (h.lt k e) hb.size)
theorem Doc.kp (_ : Doc w UA z lg y v s d us) {S : Nat → Prop} (ht : Touch S w w') (hS : ∀ k, S k → UA k) {x : Value} {l : Sto.Pairs} (hk : KeptP w UA x l) : KeptP w' UA x l :=
 hk.aside ht (fun g hg e => (hk.off g hg).1 (hS g e))
/-- The store has worked. -/
theorem Doc.worked (h : Doc w UA z lg y v s d us) {s' : SS} {d' : DS} {ub : Option Nat} (hw : RSWorked z lg y v s' d' ub w w') (hps : s'.ps = s.ps) : Doc w' UA z lg y v s' d' us ∧ Touch (GD z lg y us) w w' := by
 obtain ⟨f1, f2, f3⟩ := h.far
 have hg : ∀ k, (ownR y lg k ∨ k = z) → GD z lg y us k := fun k e => by
  rcases e with (e | e) | e
  ·exact .inl e
  ·exact .inr (.inl e)
  ·exact .inr (.inr (.inl e))
 obtain ⟨ub', hd, _⟩ := hw.disk
 refine ⟨⟨hw.blk, hw.log, ⟨ub', hd⟩, by rw [hps]; exact h.kp hw.touch (fun k e => h.sub k (hg k e)) h.kept, fun i r hi => ⟨(hw.touch.block r.u (heap_lt (h.txs i r hi).1) (fun e => ?_)).trans (h.txs i r hi).1, h.kp hw.touch (fun k e => h.sub k (hg k e)) (h.txs i r hi).2.1, h.kp hw.touch (fun k e => h.sub k (hg k e)) (h.txs i r hi).2.2⟩, h.ne, h.sub, fun k e => Nat.lt_of_lt_of_le (h.lt k e) hw.touch.size⟩, hw.touch.mono (fun k _ e => hg k e)⟩
 obtain ⟨a, b, c⟩ := f3 i r hi
 rcases e with (e | e) | e
 ·exact a e
 ·exact b e
 ·exact c e
/-- The disk alone has worked. -/
theorem Doc.disked (h : Doc w UA z lg y v s d us) {d' : DS} {ub' : Option Nat} (hd' : RefAt w' y d' ub') (ht : Touch (· = y) w w') : Doc w' UA z lg y v s d' us ∧ Touch (GD z lg y us) w w' := by
 obtain ⟨f1, f2, f3⟩ := h.far
 obtain ⟨ub, hd⟩ := h.disk
 have hly : lg ≠ y := fun e => by
  obtain ⟨_, us', hr, _⟩ := hd
  have h2 : w.heap[lg]? = some (rlogBlock y s.l) := h.log
  have := hr.blk; rw [← e, h2] at this; simp [refBlock, rlogBlock] at this
 have hS : ∀ k, k = y → UA k := fun k e => h.sub k (.inl e)
 exact ⟨⟨(ht.block z (heap_lt h.st) f1).trans h.st, h.log.touch ht hly, ⟨ub', hd'⟩, h.kp ht hS h.kept, fun i r hi => ⟨(ht.block r.u (heap_lt (h.txs i r hi).1) (f3 i r hi).1).trans (h.txs i r hi).1, h.kp ht hS (h.txs i r hi).2.1, h.kp ht hS (h.txs i r hi).2.2⟩, h.ne, h.sub, fun k e => Nat.lt_of_lt_of_le (h.lt k e) ht.size⟩, ht.mono (fun k _ e => .inl e)⟩
theorem set_urow {us : List URow} {i j : Nat} {r r' : URow} (h : (us.set i r)[j]? = some r') : (i = j ∧ r' = r ∧ i < us.length) ∨ (i ≠ j ∧ us[j]? = some r') := by
 rw [List.getElem?_set] at h
 by_cases e : i = j
 ·rw [if_pos e] at h
  split at h
  ·exact .inl ⟨e, (Option.some.inj h).symm, by assumption⟩
  ·cases h
 ·rw [if_neg e] at h
  exact .inr ⟨e, h⟩
theorem mem_set_urow {us : List URow} {i : Nat} {r r' : URow} (hi : us[i]? = some r) (he : r'.u = r.u) {k : Nat} : (∃ q ∈ us.set i r', k = q.u) → ∃ q ∈ us, k = q.u := by
 rintro ⟨q, hq, rfl⟩
 rcases List.mem_or_eq_of_mem_set hq with hq | rfl
 ·exact ⟨q, hq, rfl⟩
 ·exact ⟨r, List.mem_of_getElem? hi, he⟩
/-- A transaction has turned its own block. -/
theorem Doc.mine (h : Doc w UA z lg y v s d us) {i : Nat} {r : URow} (hi : us[i]? = some r) {v2 : Value} {t : TS} (hb : w'.heap[r.u]? = some (rtxBlock z r.v1 v2 t)) (hw : t.was = r.t.was) (hp : PairsAt w' v2 t.now) (hf : v2 = r.v2 ∨ ∀ g, v2.ownBlock = some g → w.heap.size ≤ g) (ht : Touch (· = r.u) w w') :
  Doc w' UA z lg y v s d (us.set i { r with v2 := v2, t := t }) ∧ Touch (GD z lg y us) w w' := by
 obtain ⟨_, _, f3⟩ := h.far
 obtain ⟨a, b, c⟩ := f3 i r hi
 obtain ⟨ub, hd⟩ := h.disk
 have hm : GD z lg y us r.u := .inr (.inr (.inr ⟨r, List.mem_of_getElem? hi, rfl⟩))
 have hS : ∀ k, k = r.u → UA k := fun k e => e ▸ h.sub r.u hm
 have hn : NoByte w (· = r.u) := fun k a t f e hk => h.nobyte k a t f (e ▸ hm) hk
 refine ⟨⟨(ht.block z (heap_lt h.st) (fun e => c e.symm)).trans h.st, h.log.touch ht (fun e => b e.symm), ⟨ub, hd.other ht (fun e => a e.symm) hn⟩, h.kp ht hS h.kept, fun j r' hj => ?_, fun j k r1 r2 h1 h2 hne => ?_, fun k e => ?_, fun k e => Nat.lt_of_lt_of_le (h.lt k e) ht.size⟩, ht.mono (fun k _ e => e ▸ hm)⟩
 ·rcases set_urow hj with ⟨_, rfl, _⟩ | ⟨hij, hj⟩
  ·refine ⟨hb, by simp only [hw]; exact h.kp ht hS (h.txs i r hi).2.1, hp, fun g hg => ⟨fun e => ?_, hp.blk hg⟩⟩
   rcases hf with hf | hf
   ·rw [show ({ r with v2 := v2, t := t } : URow).v2 = v2 from rfl, hf] at hg
    exact ((h.txs i r hi).2.2.off g hg).1 e
   ·have h1 := hf g hg
    have h2 := h.lt g e
    omega
  ·exact ⟨(ht.block r'.u (heap_lt (h.txs j r' hj).1) (fun e => h.ne i j r r' hi hj hij e.symm)).trans (h.txs j r' hj).1, h.kp ht hS (h.txs j r' hj).2.1, h.kp ht hS (h.txs j r' hj).2.2⟩
 ·rcases set_urow h1 with ⟨e1, rfl, _⟩ | ⟨e1, h1⟩ <;> rcases set_urow h2 with ⟨e2, rfl, _⟩ | ⟨e2, h2⟩
  ·omega
  ·exact h.ne i k r r2 hi h2 e2
  ·exact h.ne j i r1 r h1 hi (fun e => e1 e.symm)
  ·exact h.ne j k r1 r2 h1 h2 hne
 ·refine h.sub k ?_
  rcases e with e | e | e | e
  ·exact .inl e
  ·exact .inr (.inl e)
  ·exact .inr (.inr (.inl e))
  ·exact .inr (.inr (.inr (mem_set_urow (r' := { r with v2 := v2, t := t }) hi rfl e)))
end
end Go.Proofs.YtpjpknndfhablaaGreat
namespace Go.Proofs.YtpjpknndfhablaaGreat
open Go.RowKit
theorem SS.sync_ps (s : SS) (d : DS) : (s.sync d).1.ps = s.ps := by
 unfold SS.sync
 split <;> rfl
theorem TS.put_was (t : TS) (k v : Sto.S) : (t.put k v).1.was = t.was := by
 unfold TS.put
 split
 ·rfl
 ·split
  ·rfl
  ·split <;> rfl
theorem TS.del_was (t : TS) (k : Sto.S) : (t.del k).1.was = t.was := by
 unfold TS.del
 split
 ·rfl
 ·split <;> rfl
section
variable {w : World} {UA : Nat → Prop} {z lg y : Nat} {v : Value} {s : SS} {d : DS} {us : List URow} (h : Doc w UA z lg y v s d us)
include h
theorem sync_doc : Calls Tryz.prog 77 #[.pointer (some ⟨z, 0, none⟩)] w fun e w' => e = .returned (.int .i64 (s.sync d).2.2) ∧ Doc w' UA z lg y v (s.sync d).1 (s.sync d).2.1 us ∧ Touch (GD z lg y us) w w' := by
 obtain ⟨ub, hd⟩ := h.disk
 exact (rsync11_any z lg y v w s d ub h.st h.log hd).mono fun e w' ⟨he, hw⟩ => ⟨he, h.worked hw (SS.sync_ps s d)⟩
theorem check_doc (hg : Sto.Good s.ps) (hf : Sto.fits s.ps = true) (hlg : s.l.g ≤ 4611686018427387904) : Calls Tryz.prog 78 #[.pointer (some ⟨z, 0, none⟩)] w fun e w' => e = .returned (.int .i64 (s.check d).2.2) ∧ Doc w' UA z lg y v (s.check d).1 (s.check d).2.1 us ∧ Touch (GD z lg y us) w w' := by
 obtain ⟨ub, hd⟩ := h.disk
 exact (rcheck11_any z lg y v w s d ub h.st h.log hd h.kept.pairs hg hf hlg).mono fun e w' ⟨he, hw⟩ => ⟨he, h.worked hw (SS.check_ps s d).1⟩
theorem arm_doc (n k : Int) (hn : n ≤ 9223372036854775807) (hk : k ≤ 9223372036854775807) : Calls Tryz.prog 79 #[.pointer (some ⟨y, 0, none⟩), .int .i64 n, .int .i64 k] w fun e w' => e = .returned (.int .i64 (d.arm n k).2) ∧ Doc w' UA z lg y v s (d.arm n k).1 us ∧ Touch (GD z lg y us) w w' := by
 obtain ⟨ub, hd⟩ := h.disk
 exact (rarm_any y w d ub n k hd hn hk).mono fun e w' ⟨he, h1, h2⟩ => ⟨he, h.disked h1 h2⟩
theorem crash_doc (k : Int) (hk : k ≤ 9223372036854775807) : Calls Tryz.prog 80 #[.pointer (some ⟨y, 0, none⟩), .int .i64 k] w fun e w' => e = .returned (.int .i64 (d.crash k).2) ∧ Doc w' UA z lg y v s (d.crash k).1 us ∧ Touch (GD z lg y us) w w' := by
 obtain ⟨ub, hd⟩ := h.disk
 refine (rcrash_any y w d ub k hd hk).mono ?_
 rintro e w' ⟨he, ub', h1, _, h2⟩
 exact ⟨he, h.disked h1 h2⟩
theorem revive_doc : Calls Tryz.prog 81 #[.pointer (some ⟨y, 0, none⟩)] w fun e w' => e = .returned (.tuple #[]) ∧ Doc w' UA z lg y v s d.revive us ∧ Touch (GD z lg y us) w w' := by
 obtain ⟨ub, hd⟩ := h.disk
 exact (rrevive_any y w d ub hd).mono fun e w' ⟨he, h1, h2⟩ => ⟨he, h.disked h1 h2⟩
theorem put_doc {i : Nat} {r : URow} (hi : us[i]? = some r) (k x : Sto.S) (hx : x.length ≤ maxLen) (hb : r.t.now.length + 1 ≤ 4398046511104) : Calls Tryz.prog 133 #[.pointer (some ⟨r.u, 0, none⟩), .string ⟨k.toArray⟩, .string ⟨x.toArray⟩] w fun e w' => e = .returned (.int .i64 (r.t.put k x).2) ∧ ∃ v2, Doc w' UA z lg y v s d (us.set i { r with v2 := v2, t := (r.t.put k x).1 }) ∧ Touch (GD z lg y us) w w' := by
 obtain ⟨h1, _, h3⟩ := h.txs i r hi
 refine (rput_any z r.u r.v1 r.v2 r.t k x w h1 h3.pairs hx hb).mono ?_
 rintro e w' ⟨he, v2, a, b, c, t⟩
 exact ⟨he, v2, h.mine hi a (TS.put_was _ _ _) b c t⟩
theorem del_doc {i : Nat} {r : URow} (hi : us[i]? = some r) (k : Sto.S) (hb : r.t.now.length ≤ 4398046511104) : Calls Tryz.prog 134 #[.pointer (some ⟨r.u, 0, none⟩), .string ⟨k.toArray⟩] w fun e w' => e = .returned (.int .i64 (r.t.del k).2) ∧ ∃ v2, Doc w' UA z lg y v s d (us.set i { r with v2 := v2, t := (r.t.del k).1 }) ∧ Touch (GD z lg y us) w w' := by
 obtain ⟨h1, _, h3⟩ := h.txs i r hi
 refine (rdelete_any z r.u r.v1 r.v2 r.t k w h1 h3.pairs (fun g hg e => (h3.off g hg).1 (h.sub g (.inr (.inr (.inr ⟨r, List.mem_of_getElem? hi, e⟩))))) hb).mono ?_
 rintro e w' ⟨he, v2, a, b, c, t⟩
 exact ⟨he, v2, h.mine hi a (TS.del_was _ _) b c t⟩
theorem abort_doc {i : Nat} {r : URow} (hi : us[i]? = some r) : Calls Tryz.prog 137 #[.pointer (some ⟨r.u, 0, none⟩)] w fun e w' => e = .returned (.tuple #[]) ∧ ∃ v2, Doc w' UA z lg y v s d (us.set i { r with v2 := v2, t := r.t.ends }) ∧ Touch (GD z lg y us) w w' := by
 obtain ⟨h1, _, _⟩ := h.txs i r hi
 refine (rabort_any z r.u r.v1 r.v2 r.t w h1).mono ?_
 rintro e w' ⟨he, a, t⟩
 exact ⟨he, .slice none 0 0, h.mine hi a rfl ⟨rfl, .inl ⟨rfl, rfl⟩⟩ (.inr (fun g e => by cases e)) t⟩
theorem commit_doc {i : Nat} {r : URow} (hi : us[i]? = some r) (hg : Sto.Good s.ps) (hf : Sto.fits s.ps = true) (hgw : Sto.Good r.t.was) (hgn : Sto.Good r.t.now) (hlg : s.l.g ≤ 4611686018427387904) (hln : s.l.n ≤ 4611686018427387904) (hl1 : r.t.now.length ≤ 4194304) (hl2 : r.t.was.length ≤ 4096) (hturn : s.turn ≤ 4611686018427387904) :
  Calls Tryz.prog 135 #[.pointer (some ⟨r.u, 0, none⟩)] w fun e w' => e = .returned (.int .i64 (s.commit r.t d).2.2) ∧ ∃ v' v2, Doc w' UA z lg y v' (s.commit r.t d).1 (s.commit r.t d).2.1 (us.set i { r with v2 := v2, t := r.t.ended }) ∧ Touch (GD z lg y us) w w' := by
 obtain ⟨ub, hd⟩ := h.disk
 obtain ⟨h1, h2, h3⟩ := h.txs i r hi
 have hu : GD z lg y us r.u := .inr (.inr (.inr ⟨r, List.mem_of_getElem? hi, rfl⟩))
 have hsep : RSep z lg y r.u v := fun g hgv => by
  have hn := (h.kept.off g hgv).1
  exact ⟨fun e => hn (h.sub g (.inr (.inr (.inl e)))), fun e => hn (h.sub g (.inr (.inl e))), fun e => hn (h.sub g (.inl e)), fun e => hn (h.sub g (e ▸ hu))⟩
 refine (rcommit_any z lg y r.u v r.v1 r.v2 w s r.t d ub ⟨h.st, h.log, h1, ⟨ub, hd, Newer.refl _ _⟩, h.kept.pairs, Touch.refl _ _⟩ h2.pairs h3.pairs hsep hg hf hgw hgn hlg hln hl1 hl2 hturn).mono ?_
 rintro e w' ⟨he, v', hv, hm⟩
 have hS : ∀ k, (ownR y lg k ∨ k = z ∨ k = r.u) → GD z lg y us k := fun k e => by
  rcases e with (e | e) | e | e
  ·exact .inl e
  ·exact .inr (.inl e)
  ·exact .inr (.inr (.inl e))
  ·exact e ▸ hu
 have hA : ∀ k, (ownR y lg k ∨ k = z ∨ k = r.u) → UA k := fun k e => h.sub k (hS k e)
 obtain ⟨ub', hd', _⟩ := hm.disk
 obtain ⟨_, _, f3⟩ := h.far
 refine ⟨he, v', (if r.t.over then r.v2 else .slice none 0 0), ⟨hm.st, hm.log, ⟨ub', hd'⟩, ⟨hm.prs, fun g hgv => ⟨fun e => ?_, hm.prs.blk hgv⟩⟩, fun j r' hj => ?_, fun j k r1 r2 a1 a2 hne => ?_, fun k e => ?_, fun k e => Nat.lt_of_lt_of_le (h.lt k e) hm.touch.size⟩, hm.touch.mono (fun k _ e => hS k e)⟩
 ·rcases hv with hv | hv
  ·rw [hv] at hgv; exact (h.kept.off g hgv).1 e
  ·have := hv g hgv; have := h.lt g e; omega
 ·rcases set_urow hj with ⟨_, rfl, _⟩ | ⟨hij, hj⟩
  ·have hwas : r.t.ended.was = r.t.was := by unfold TS.ended; split <;> rfl
   refine ⟨hm.tx, by simp only [hwas]; exact h.kp hm.touch hA h2, ?_⟩
   show KeptP w' UA (if r.t.over then r.v2 else .slice none 0 0) r.t.ended.now
   unfold TS.ended
   cases r.t.over with
   | true => exact h.kp hm.touch hA h3
   | false => exact ⟨⟨rfl, .inl ⟨rfl, rfl⟩⟩, fun g e => by cases e⟩
  ·obtain ⟨a, b, c⟩ := f3 j r' hj
   refine ⟨(hm.touch.block r'.u (heap_lt (h.txs j r' hj).1) (fun e => ?_)).trans (h.txs j r' hj).1, h.kp hm.touch hA (h.txs j r' hj).2.1, h.kp hm.touch hA (h.txs j r' hj).2.2⟩
   rcases e with (e | e) | e | e
   ·exact a e
   ·exact b e
   ·exact c e
   ·exact h.ne i j r r' hi hj hij e.symm
 ·rcases set_urow a1 with ⟨e1, rfl, _⟩ | ⟨e1, a1⟩ <;> rcases set_urow a2 with ⟨e2, rfl, _⟩ | ⟨e2, a2⟩
  ·omega
  ·exact h.ne i k r r2 hi a2 e2
  ·exact h.ne j i r1 r a1 hi (fun e => e1 e.symm)
  ·exact h.ne j k r1 r2 a1 a2 hne
 ·refine h.sub k ?_
  rcases e with e | e | e | e
  ·exact .inl e
  ·exact .inr (.inl e)
  ·exact .inr (.inr (.inl e))
  ·exact .inr (.inr (.inr (mem_set_urow (r' := { r with v2 := (if r.t.over then r.v2 else .slice none 0 0), t := r.t.ended }) hi rfl e)))
theorem begin_doc : Calls Tryz.prog 73 #[.pointer (some ⟨z, 0, none⟩)] w fun e w' => ∃ u, e = .returned (.pointer (some ⟨u, 0, none⟩)) ∧ w.heap.size ≤ u ∧ Doc w' (fun k => UA k ∨ k = u) z lg y v s d (us ++ [⟨u, v, v, s.begin_⟩]) ∧ Below w.heap.size w w' := by
 obtain ⟨ao, cap, hv, _⟩ := h.kept.pairs.read
 refine (rbegin_any z lg v w s h.st ⟨ao, _, cap, hv⟩).mono ?_
 rintro e w' ⟨u, rfl, hu, hul, hb⟩
 have h' := h.below hb
 have hlt := heap_lt hu
 have kp : ∀ (x : Value) (l : Sto.Pairs), KeptP w UA x l → KeptP w' (fun k => UA k ∨ k = u) x l := fun x l hk => ⟨hk.pairs.below hb, fun g hg => ⟨fun e => by rcases e with e | e; exact (hk.off g hg).1 e; have := (hk.off g hg).2; omega, Nat.lt_of_lt_of_le (hk.off g hg).2 hb.size⟩⟩
 have key : ∀ (i : Nat) r, (us ++ [(⟨u, v, v, s.begin_⟩ : URow)])[i]? = some r → us[i]? = some r ∨ (i = us.length ∧ r = ⟨u, v, v, s.begin_⟩) := fun i r hi => by
  rw [List.getElem?_append] at hi
  split at hi
  ·exact .inl hi
  ·rename_i hge
   have : i - us.length = 0 := by have := (List.getElem?_eq_some_iff.1 hi).1; simp at this; omega
   rw [this] at hi
   cases hi
   exact .inr ⟨by omega, rfl⟩
 refine ⟨u, rfl, hul, ⟨h'.st, h'.log, h'.disk, kp _ _ h.kept, fun i r hi => ?_, fun i j r r' hi hj hne => ?_, fun k e => ?_, fun k e => ?_⟩, hb⟩
 ·rcases key i r hi with hi | ⟨_, rfl⟩
  ·exact ⟨(h'.txs i r hi).1, kp _ _ (h.txs i r hi).2.1, kp _ _ (h.txs i r hi).2.2⟩
  ·exact ⟨hu, kp _ _ h.kept, kp _ _ h.kept⟩
 ·rcases key i r hi with hi | ⟨ei, rfl⟩ <;> rcases key j r' hj with hj | ⟨ej, rfl⟩
  ·exact h.ne i j r r' hi hj hne
  ·intro e; have := heap_lt (h.txs i r hi).1; simp only at e; omega
  ·intro e; have := heap_lt (h.txs j r' hj).1; simp only at e; omega
  ·omega
 ·rcases e with e | e | e | ⟨q, hq, e⟩
  ·exact .inl (h.sub k (.inl e))
  ·exact .inl (h.sub k (.inr (.inl e)))
  ·exact .inl (h.sub k (.inr (.inr (.inl e))))
  ·rcases List.mem_append.1 hq with hq | hq
   ·exact .inl (h.sub k (.inr (.inr (.inr ⟨q, hq, e⟩))))
   ·simp only [List.mem_singleton] at hq
    subst hq
    exact .inr e
 ·rcases e with e | rfl
  ·exact Nat.lt_of_lt_of_le (h.lt k e) hb.size
  ·exact hlt
end
end Go.Proofs.YtpjpknndfhablaaGreat

/- Laws of the plain store: the bytes of changes are read as those changes. The store of chapter 11 as plain Lean: an open store, a transaction, what calls do. No program in sight. Rows of pairs as they lie; the document's Find. The document's Size, Fits, Key. The document's Same over pairs. Rows of pairs are appended to; the document's With, Without. The document's With, Without. The document's Scan. Words and bytes in the walk's spelling. Walks of the log's leaves: Sum, put, of. -/
import Derived.BigQuiet
import Derived.Handy
import Derived.Lib.EndianBits
import Derived.Laws.BitsAllLaws
import Derived.RegionTactic
import Derived.BigRegion
import Derived.Deep.QuietTactic
import Derived.IntWalk
import Derived.Deep.OwnRows
import Derived.Test.YtpjpknndfhablaaGreatK3
import Derived.Test.YtpjpknndfhablaaGreatK4
namespace Go.Proofs.YtpjpknndfhablaaGreat
namespace Sto
structure Fine (c : Ch) : Prop where
 key : keyOk c.key = true
 value : valueOk c.value = true
 bare : c.put = false → c.value = []
theorem keyOk_iff {k : S} : keyOk k = true ↔ 1 ≤ k.length ∧ k.length ≤ 64 := by simp [keyOk]
theorem valueOk_iff {v : S} : valueOk v = true ↔ v.length ≤ 4096 := by simp [valueOk]
theorem one_enc1 (c : Ch) (r : S) (hc : Fine c) : one (enc1 c ++ r) = some (c, r) := by
 obtain ⟨p, k, v⟩ := c
 have hk := (keyOk_iff.1 hc.key).2
 have hv := valueOk_iff.1 hc.value
 have h0 := hc.bare
 simp only at hk hv h0
 have hkn : (UInt8.ofNat k.length).toNat = k.length := by
  rw [UInt8.toNat_ofNat']
  exact Nat.mod_eq_of_lt (by omega)
 cases p with
 | false =>
  have := h0 rfl
  subst this
  simp [enc1, one, hkn]
 | true =>
  have hb : (Sha.big v.length 2).length = 2 := Sha.big_length _ _
  have hbv : Sha.val (Sha.big v.length 2) = v.length := Wal.val_big_of (by omega)
  have e1 : (k ++ (Sha.big v.length 2 ++ v) ++ r) = k ++ (Sha.big v.length 2 ++ (v ++ r)) := by simp
  simp only [enc1, one, if_true, List.cons_append, hkn, e1]
  rw [if_neg (by simp), if_neg (by decide)]
  simp only [List.drop_left, List.take_left]
  rw [List.take_left' hb, List.drop_left' hb, hbv, if_neg (by simp [hb]), if_neg (by simp), List.take_left, List.drop_left]
theorem dec_enc : ∀ (l : List Ch) (last : Option S), (∀ c ∈ l, Fine c) → RiseC l → (∀ c, l.head? = some c → after last c.key = true) → dec l.length (enc l) last = some l
 | [], _, _, _, _ => rfl
 | c :: l, last, hf, hr, ha => by
  have h1 := hf c (by simp)
  have ih := dec_enc l (some c.key) (fun x hx => hf x (by simp [hx])) (List.Pairwise.of_cons hr) (by
   intro x hx
   cases l with
   | nil => cases hx
   | cons y l => simp at hx; subst hx; exact List.rel_of_pairwise_cons hr (by simp))
  show (match one (enc1 c ++ enc l) with
   | none => none
   | some (c, r) => if keyOk c.key && valueOk c.value && after last c.key then (dec l.length r (some c.key)).map (c :: ·) else none) = some (c :: l)
  rw [one_enc1 c _ h1]
  simp only [h1.key, h1.value, ha c rfl, Bool.and_self, if_true, ih, Option.map_some]
theorem decode_encode {l : List Ch} {count most : Nat} (h0 : l ≠ []) (hc : l.length < 256 ^ count) (hm : l.length ≤ most) (hf : ∀ c ∈ l, Fine c) (hr : RiseC l) : decode (encode l count) count most = some l := by
 have hb : (Sha.big l.length count).length = count := Sha.big_length _ _
 have hbv : Sha.val (Sha.big l.length count) = l.length := Wal.val_big_of hc
 have hl : 1 ≤ l.length := by cases l with | nil => exact absurd rfl h0 | cons => simp
 unfold decode encode
 rw [List.take_left' hb, List.drop_left' hb, hbv, if_neg (by simp [hb]), if_neg (by omega)]
 exact dec_enc l none hf hr (fun _ _ => rfl)
/-! Whatever is read is fine. -/
theorem one_bare {s r : S} {c : Ch} (h : one s = some (c, r)) : c.put = false → c.value = [] := by
 unfold one at h
 split at h
 ·split at h
  ·cases h
  ·split at h
   ·cases h; intro; rfl
   ·split at h
    ·split at h
     ·cases h
     ·split at h
      ·cases h
      ·cases h; intro h; cases h
    ·cases h
 ·cases h
theorem dec_fine : ∀ (n : Nat) (s : S) (last : Option S) (l : List Ch), dec n s last = some l → l.length = n ∧ (∀ c ∈ l, Fine c) ∧ RiseC l ∧ (∀ c ∈ l, after last c.key = true)
 | 0, s, last, l, h => by
  unfold dec at h
  split at h
  ·cases h; exact ⟨rfl, by simp, List.Pairwise.nil, by simp⟩
  ·cases h
 | n + 1, s, last, l, h => by
  rw [dec] at h
  split at h
  ·cases h
  ·rename_i c r hone
   split at h
   ·rename_i hk
    obtain ⟨m, hm, rfl⟩ := Option.map_eq_some_iff.1 h
    obtain ⟨i1, i2, i3, i4⟩ := dec_fine n r (some c.key) m hm
    simp only [Bool.and_eq_true] at hk
    refine ⟨by simp [i1], ?_, List.pairwise_cons.2 ⟨fun d hd => i4 d hd, i3⟩, ?_⟩
    ·intro d hd
     rcases List.mem_cons.1 hd with rfl | hd
     ·exact ⟨hk.1.1, hk.1.2, one_bare hone⟩
     ·exact i2 d hd
    ·intro d hd
     rcases List.mem_cons.1 hd with rfl | hd
     ·exact hk.2
     ·have := i4 d hd
      cases last with
      | none => rfl
      | some j => exact lt_trans hk.2 this
   ·cases h
theorem decode_fine {s : S} {count most : Nat} {l : List Ch} (h : decode s count most = some l) : l.length ≤ most ∧ l ≠ [] ∧ (∀ c ∈ l, Fine c) ∧ RiseC l := by
 unfold decode at h
 split at h
 ·cases h
 ·split at h
  ·cases h
  ·rename_i hn
   obtain ⟨h1, h2, h3, _⟩ := dec_fine _ _ _ _ h
   refine ⟨by omega, ?_, h2, h3⟩
   rintro rfl
   simp at h1
   omega
/-! Good pairs: rising, each key and each value may be. -/
structure Good (l : Pairs) : Prop where
 rise : Rise l
 ok : ∀ p ∈ l, keyOk p.1 = true ∧ valueOk p.2 = true
theorem Good.nil : Good [] := ⟨List.Pairwise.nil, by simp⟩
theorem Good.put {l : Pairs} (h : Good l) {k v : S} (hk : keyOk k = true) (hv : valueOk v = true) : Good (put l k v) :=
 ⟨put_rise k v h.rise, fun p hp => by
  rcases mem_put hp with rfl | hp
  ·exact ⟨hk, hv⟩
  ·exact h.ok p hp⟩
theorem Good.del {l : Pairs} (h : Good l) (k : S) : Good (del l k) := ⟨del_rise k h.rise, fun p hp => h.ok p (mem_del hp)⟩
theorem Good.steps : ∀ {c : List Ch} {l m : Pairs}, Good l → (∀ x ∈ c, Fine x) → Sto.steps l c = some m → Good m
 | [], l, m, h, _, hs => by simp [Sto.steps] at hs; subst hs; exact h
 | c :: r, l, m, h, hf, hs => by
  rw [Sto.steps] at hs
  obtain ⟨n, h1, h2⟩ := Option.bind_eq_some_iff.1 hs
  refine Good.steps ?_ (fun x hx => hf x (by simp [hx])) h2
  have hc := hf c (by simp)
  unfold step at h1
  split at h1
  ·split at h1
   ·cases h1
   ·cases h1; exact h.put hc.key hc.value
  ·split at h1
   ·cases h1; exact h.del _
   ·cases h1
theorem Good.does {c : List Ch} {l m : Pairs} (h : Good l) (hf : ∀ x ∈ c, Fine x) (hs : Sto.does l c = some m) : Good m ∧ fits m = true := by
 obtain ⟨n, h1, h2⟩ := Option.bind_eq_some_iff.1 hs
 split at h2
 ·rename_i hfit; cases h2; exact ⟨h.steps hf h1, hfit⟩
 ·cases h2
theorem changes_fine {a b : Pairs} (ha : Good a) (hb : Good b) : ∀ c ∈ changes a b, Fine c := by
 intro c hc
 rcases mem_changes a b c hc with ⟨h1, h2, p, hp, he⟩ | ⟨h1, h2⟩
 ·exact ⟨by rw [← he]; exact (ha.ok p hp).1, by rw [h2]; rfl, fun _ => h2⟩
 ·exact ⟨(hb.ok _ h2).1, (hb.ok _ h2).2, fun h => by rw [h1] at h; cases h⟩
/-- A store's image: its pairs as puts. -/
def image (l : Pairs) : S := if l = [] then [] else encode (changes [] l) 4
theorem changes_nil : ∀ (l : Pairs), changes [] l = l.map fun p => ⟨true, p.1, p.2⟩
 | [] => by simp [changes]
 | p :: r => by rw [changes, changes_nil r]; rfl
theorem enc_puts_length : ∀ (l : Pairs), (enc (l.map fun p => ⟨true, p.1, p.2⟩)).length = 4 * l.length + size l
 | [] => rfl
 | p :: r => by
  have ih := enc_puts_length r
  simp only [enc] at ih
  simp [enc, enc1, size, Sha.big_length, ih]
  omega
theorem image_length (l : Pairs) (h : fits l = true) : (image l).length ≤ 270340 := by
 unfold image
 split
 ·simp
 ·simp only [fits, Bool.and_eq_true, decide_eq_true_eq] at h
  rw [changes_nil, encode, List.length_append, enc_puts_length, Sha.big_length]
  omega
end Sto
end Go.Proofs.YtpjpknndfhablaaGreat
namespace Go.Proofs.YtpjpknndfhablaaGreat
/-- An open store: its log, its pairs, how many transactions changed it, is it dead? -/
structure SS where
 l : Wal.LS := {}
 ps : Sto.Pairs := []
 turn : Nat := 0
 dead : Bool := false
/-- A transaction: what there was, what it sees. -/
structure TS where
 was : Sto.Pairs := []
 now : Sto.Pairs := []
 turn : Nat := 0
 over : Bool := false
namespace SS
def sync (s : SS) (d : DS) : SS × DS × Int :=
 if s.dead then (s, d, 2) else ({ s with l := (Wal.sync s.l d).1, dead := decide ((Wal.sync s.l d).2.2 = 2) }, (Wal.sync s.l d).2.1, (Wal.sync s.l d).2.2)
def check (s : SS) (d : DS) : SS × DS × Int :=
 if s.dead then (s, d, 2) else
 ({ s with l := (Wal.checkpoint s.l d (Sto.image s.ps)).1, dead := decide ((Wal.checkpoint s.l d (Sto.image s.ps)).2.2 = 2) }, (Wal.checkpoint s.l d (Sto.image s.ps)).2.1, (Wal.checkpoint s.l d (Sto.image s.ps)).2.2)
def begin_ (s : SS) : TS := { was := s.ps, now := s.ps, turn := s.turn, over := false }
/-- Room is made for a record. -/
def making (s : SS) (d : DS) (r : List UInt8) : SS × DS × Int := if Wal.room s.l d < r.length then s.check d else (s, d, 0)
/-- A record is appended; then the pairs are these. -/
def adding (s : SS) (d : DS) (r : List UInt8) (m : Sto.Pairs) : SS × DS × Int :=
 if (Wal.append s.l d r).2.2 ≠ 0 then ({ s with l := (Wal.append s.l d r).1, dead := decide ((Wal.append s.l d r).2.2 = 2) }, (Wal.append s.l d r).2.1, (Wal.append s.l d r).2.2) else
 ({ s with l := (Wal.append s.l d r).1, ps := m, turn := s.turn + 1 }, (Wal.append s.l d r).2.1, 0)
/-- Changes become the store's. -/
def taking (s : SS) (d : DS) (c : List Sto.Ch) (m : Sto.Pairs) : SS × DS × Int :=
 if (s.making d (Sto.encode c 2)).2.2 ≠ 0 then s.making d (Sto.encode c 2) else
 (s.making d (Sto.encode c 2)).1.adding (s.making d (Sto.encode c 2)).2.1 (Sto.encode c 2) m
def commit (s : SS) (t : TS) (d : DS) : SS × DS × Int :=
 if t.over then (s, d, 114) else
 if s.dead then (s, d, 2) else
 if s.turn ≠ t.turn then (s, d, 114) else
 if Sto.changes t.was t.now = [] then (s, d, 0) else
 if 512 < (Sto.changes t.was t.now).length ∨ 65536 < (Sto.encode (Sto.changes t.was t.now) 2).length then (s, d, 112) else
 match Sto.does s.ps (Sto.changes t.was t.now) with
 | none => (s, d, 113)
 | some m => s.taking d (Sto.changes t.was t.now) m
/-- The pairs behind records. -/
def replay : Sto.Pairs → List (List UInt8) → Option Sto.Pairs
 | l, [] => some l
 | l, r :: rs => (Sto.decode r 2 512).bind fun c => (Sto.does l c).bind fun m => replay m rs
def snapPairs (snap : List UInt8) : Option Sto.Pairs :=
 if snap = [] then some [] else (Sto.decode snap 4 2048).bind fun c => if c.all (·.put) then Sto.does [] c else none
def opened (q : Wal.Opened) : Option Sto.Pairs := (snapPairs q.snap).bind fun l => replay l q.rs
def open_ (d : DS) : Option SS × DS × Int :=
 match (Wal.open_ d).1 with
 | none => (none, (Wal.open_ d).2.1, (Wal.open_ d).2.2)
 | some q => match opened q with
  | none => (none, (Wal.open_ d).2.1, 110)
  | some l => (some { l := q.l, ps := l, turn := 0, dead := false }, (Wal.open_ d).2.1, 0)
def new (d : DS) : Option SS × DS × Int :=
 match (Wal.new d).1 with
 | none => (none, (Wal.new d).2.1, (Wal.new d).2.2)
 | some l => (some { l := l, ps := [], turn := 0, dead := false }, (Wal.new d).2.1, 0)
end SS
namespace TS
def put (t : TS) (k v : Sto.S) : TS × Int :=
 if t.over then (t, 114) else if Sto.keyOk k = false then (t, 111) else if Sto.valueOk v = false then (t, 112) else ({ t with now := Sto.put t.now k v }, 0)
def del (t : TS) (k : Sto.S) : TS × Int :=
 if t.over then (t, 114) else if Sto.keyOk k = false then (t, 111) else ({ t with now := Sto.del t.now k }, 0)
def ends (t : TS) : TS := { t with now := [], over := true }
end TS
end Go.Proofs.YtpjpknndfhablaaGreat
namespace Go.Proofs.YtpjpknndfhablaaGreat
open Go.RowKit
def pCells : Sto.Pairs → List Value
 | [] => []
 | p :: r => .string ⟨p.1.toArray⟩ :: .string ⟨p.2.toArray⟩ :: pCells r
theorem pCells_length (l : Sto.Pairs) : (pCells l).length = l.length * 2 := by
 induction l with
 | nil => rfl
 | cons p r ih => simp [pCells, ih, Nat.add_mul]
theorem pCells_append (l m : Sto.Pairs) : pCells (l ++ m) = pCells l ++ pCells m := by
 induction l with
 | nil => rfl
 | cons p r ih => simp [pCells, ih]
theorem pCells_at : ∀ {l : Sto.Pairs} {j : Nat} {p : Sto.S × Sto.S}, l[j]? = some p →
  (pCells l)[j * 2]? = some (.string ⟨p.1.toArray⟩) ∧ (pCells l)[j * 2 + 1]? = some (.string ⟨p.2.toArray⟩)
 | [], _, _, h => by simp at h
 | q :: r, 0, p, h => by simp at h; subst h; simp [pCells]
 | q :: r, j + 1, p, h => by
  have := pCells_at (l := r) (j := j) (by simpa using h)
  simpa [pCells, Nat.add_mul] using this
theorem pCells_one (l : Sto.Pairs) : ∀ v ∈ pCells l, v.oneCell' = true := by
 induction l with
 | nil => simp [pCells]
 | cons p r ih =>
  intro v hv
  simp only [pCells, List.mem_cons] at hv
  rcases hv with rfl | rfl | hv
  ·rfl
  ·rfl
  ·exact ih v hv
/-- A value is a slice that holds these pairs. -/
def PairsAt (w : World) (v : Value) (l : Sto.Pairs) : Prop := OwnF w 0 2 v l.length (pCells l)
theorem PairsAt.touch {S : Nat → Prop} {w w' : World} {v : Value} {l : Sto.Pairs} (h : PairsAt w v l) (ht : Touch S w w') (hS : ∀ k, v.ownBlock = some k → ¬ S k) : PairsAt w' v l := OwnF.touch h ht hS
theorem PairsAt.below {w w' : World} {v : Value} {l : Sto.Pairs} (h : PairsAt w v l) (hb : Below w.heap.size w w') : PairsAt w' v l :=
 h.touch (Touch.of_below (S := fun _ => False) hb) (fun _ _ h => h)
theorem PairsAt.read {w : World} {v : Value} {l : Sto.Pairs} (h : PairsAt w v l) : ∃ ao cap, v = .slice ao l.length cap ∧ l.length ≤ cap ∧ cap ≤ 9223372036854775807 ∧
  ∀ j p, l[j]? = some p → ∃ g, ao = some ⟨g, 0, none⟩ ∧ g < w.heap.size ∧ w.cell? ⟨g, j * 2, none⟩ = some (.string ⟨p.1.toArray⟩) ∧ w.cell? ⟨g, j * 2 + 1, none⟩ = some (.string ⟨p.2.toArray⟩) := by
 rcases h.2 with ⟨rfl, h0⟩ | ⟨g, cap, rfl, _, hg, hn, hc, _, hx⟩
 ·refine ⟨none, 0, by rw [h0], by omega, by omega, fun j p hj => ?_⟩
  have := (List.getElem?_eq_some_iff.1 hj).1
  omega
 ·refine ⟨_, cap, rfl, hn, by unfold maxLen at hc; omega, fun j p hj => ⟨g, rfl, hg, ?_, ?_⟩⟩
  ·exact hx _ _ (pCells_at hj).1
  ·exact hx _ _ (pCells_at hj).2
set_option maxHeartbeats 2000000 in
theorem rfind_any (v : Value) (l : Sto.Pairs) (k : Sto.S) (w : World) (h : PairsAt w v l) :
  Calls Tryz.prog 108 #[v, .string ⟨k.toArray⟩] w fun e w' => e = .returned (.tuple #[.int .i64 (Sto.place l k), .bool (Sto.here l k)]) ∧ Below w.heap.size w w' := by
 obtain ⟨ao, cap, rfl, hn, hcap, hcell⟩ := h.read
 have HC := Lib.hid hcell
 clear hcell h
 go_enter Tryz.func108, Tryz.ntmps108
 go_wp2
 go_loop [6] (fun i => ∃ (j : Nat), i = .int .i64 j ∧ j ≤ Sto.place l k) (fun i => l.length - (intOf i).toNat)
 case atStart => exact ⟨0, rfl, by omega⟩
 case round =>
  obtain ⟨j, rfl, hj⟩ := hrel
  have hpl := Sto.place_le l k
  by_cases hlt : j < l.length
  ·obtain ⟨p, hs⟩ : ∃ p, l[j]? = some p := ⟨_, List.getElem?_eq_getElem hlt⟩
   obtain ⟨g, rfl, hg, ca, cb⟩ := HC.out j p hs
   have HS := Lib.hid hs
   cases hpk : Sto.lt p.1 k with
   | true =>
    have hle : Op.bytesLess p.1 k = true := hpk
    have hj1 : Hid (j + 1 ≤ Sto.place l k) := Lib.hid (by
     rcases Nat.lt_or_ge j (Sto.place l k) with h | h
     ·exact h
     ·have e : j = Sto.place l k := by omega
      have := Sto.place_at l k p (by rw [← e]; exact HS.out)
      rw [hpk] at this; cases this)
    clear hs hpk
    go_wp2
    go_round
    all_goals first
     | (simp [intOf]; omega)
     | exact ⟨j + 1, by go_num, hj1.out⟩
   | false =>
    have hle : Op.bytesLess p.1 k = false := hpk
    have e : j = Sto.place l k := by
     rcases Nat.lt_or_ge j (Sto.place l k) with h | h
     ·have := Sto.place_before l k j p h HS.out
      rw [hpk] at this; cases this
     ·omega
    have hh : Sto.here l k = decide (p.1 = k) := by
     rw [Sto.here_place, ← e, HS.out]
    have HH := Lib.hid hh
    have HE := Lib.hid e
    clear hs hpk hh e hpl hj
    by_cases hk : p.1 = k
    ·rw [decide_eq_true hk] at HH
     rw [hk] at ca hle
     go_wp2
     go_quiet (fail)
     go_wp2
     go_ret2
     exact ⟨by rw [← HE.out, HH.out]; rfl, below_drewN (Below.refl _ _) _⟩
    ·rw [decide_eq_false hk] at HH
     have hne : (p.1 == k) = false := beq_eq_false_iff_ne.2 hk
     go_wp2
     go_quiet (fail)
     go_wp2
     go_ret2
     exact ⟨by rw [← HE.out, HH.out]; rfl, below_drewN (Below.refl _ _) _⟩
  ·have e : j = Sto.place l k := by omega
   have HE := Lib.hid e
   have hh : Sto.here l k = false := by
    rw [Sto.here_place, List.getElem?_eq_none (by omega)]
   have HH := Lib.hid hh
   clear hh e hpl hj
   go_wp2
   go_quiet (fail)
   go_wp2
   go_ret2
   exact ⟨by rw [← HE.out, HH.out]; rfl, below_drewN (Below.refl _ _) _⟩
end Go.Proofs.YtpjpknndfhablaaGreat
namespace Go.Proofs.YtpjpknndfhablaaGreat
open Go.RowKit
namespace Sto
theorem size_append : ∀ l m : Pairs, size (l ++ m) = size l + size m
 | [], m => by simp [size]
 | p :: r, m => by simp [size, size_append r m]; omega
theorem size_take_succ {l : Pairs} {j : Nat} {p : S × S} (h : l[j]? = some p) : size (l.take (j + 1)) = size (l.take j) + (p.1.length + p.2.length) := by
 rw [List.take_add_one, h, size_append]
 simp [size]
theorem size_take_le (l : Pairs) (j : Nat) : size (l.take j) ≤ size l := by
 have := size_append (l.take j) (l.drop j)
 rw [List.take_append_drop] at this
 omega
theorem size_ok {l : Pairs} (h : ∀ p ∈ l, keyOk p.1 = true ∧ valueOk p.2 = true) : size l ≤ 4160 * l.length := by
 induction l with
 | nil => simp [size]
 | cons p r ih =>
  have h1 := h p (by simp)
  simp [keyOk, valueOk] at h1
  have := ih fun x hx => h x (by simp [hx])
  simp [size]
  omega
end Sto
set_option maxHeartbeats 2000000 in
theorem rsize11_any (v : Value) (l : Sto.Pairs) (w : World) (h : PairsAt w v l) (hb : Sto.size l ≤ 4611686018427387904) :
  Calls Tryz.prog 83 #[v] w fun e w' => e = .returned (.int .i64 (Sto.size l)) ∧ Below w.heap.size w w' := by
 obtain ⟨ao, cap, rfl, hn, hcap, hcell⟩ := h.read
 have HC : Hid (∀ w' : World, Below w.heap.size w w' → ∀ (j : Nat) p, l[j]? = some p → ∃ g, ao = some ⟨g, 0, none⟩ ∧ g < w.heap.size ∧ w'.cell? ⟨g, j * 2, none⟩ = some (.string ⟨p.1.toArray⟩) ∧ w'.cell? ⟨g, j * 2 + 1, none⟩ = some (.string ⟨p.2.toArray⟩)) := Lib.hid (fun w' hbl j p hj => by
  obtain ⟨g, h1, h2, h3, h4⟩ := hcell j p hj
  exact ⟨g, h1, h2, cell_later hbl h3, cell_later hbl h4⟩)
 clear hcell h
 go_enter Tryz.func83, Tryz.ntmps83
 go_wp2
 go_loopw [3, 4] (fun n i w' => ∃ (j m : Nat), n = .int .i64 m ∧ i = .int .i64 j ∧ j ≤ l.length ∧ m = Sto.size (l.take j) ∧ Below w.heap.size w w') (fun _ i _ => l.length - (intOf i).toNat)
 case atStart => exact ⟨0, 0, rfl, rfl, by omega, by simp [Sto.size], Below.refl _ _⟩
 case round =>
  obtain ⟨j, m, rfl, rfl, hj, hm, hbl⟩ := hrel
  have HM := Lib.hid hm
  have HB := Lib.hid hbl
  by_cases hlt : j < l.length
  ·obtain ⟨p, hs⟩ : ∃ p, l[j]? = some p := ⟨_, List.getElem?_eq_getElem hlt⟩
   obtain ⟨g, rfl, hg, ca, cb⟩ := HC.out _ hbl j p hs
   have hsz := Sto.size_take_succ hs
   have hle := Sto.size_take_le l (j + 1)
   have HZ : Hid (Sto.size (l.take (j + 1)) = m + (p.1.length + p.2.length)) := Lib.hid (by rw [hsz, ← HM.out])
   have hle2 : m + (p.1.length + p.2.length) ≤ 4611686018427387904 := by rw [← HZ.out]; omega
   clear hsz hle hm hs
   have hl1 : p.1.length ≤ 4611686018427387904 := by omega
   have hl2 : p.2.length ≤ 4611686018427387904 := by omega
   go_wp2
   go_quiet (fail)
   go_wp2
   go_round
   all_goals first
    | (simp [intOf]; omega)
    | exact ⟨j + 1, _, by go_num, by go_num, by omega, HZ.out.symm, below_drewN HB.out _⟩
    | (trace_state; fail)
  ·obtain rfl : j = l.length := by omega
   have HX : Hid (m = Sto.size l) := Lib.hid (by rw [hm, List.take_length])
   clear hm hbl
   go_wp2
   go_ret
   exact ⟨ret_int (by rw [HX.out]), HB.out⟩
set_option maxHeartbeats 2000000 in
theorem rkey_any (k : Sto.S) (w : World) : Calls Tryz.prog 107 #[.string ⟨k.toArray⟩] w fun e w' => e = .returned (.bool (Sto.keyOk k)) ∧ w = w' := by
 by_cases h : k.length < 1
 ·have HX : Hid (Sto.keyOk k = false) := Lib.hid (by unfold Sto.keyOk; rw [decide_eq_false (by omega), Bool.false_and])
  go_enter Tryz.func107, Tryz.ntmps107
  go_wp2
  go_ret
  exact ⟨by rw [HX.out]; rfl, rfl⟩
 by_cases g : k.length ≤ 64
 ·have HX : Hid (Sto.keyOk k = true) := Lib.hid (by unfold Sto.keyOk; rw [decide_eq_true (by omega), decide_eq_true g, Bool.true_and])
  go_enter Tryz.func107, Tryz.ntmps107
  go_wp2
  go_ret
  exact ⟨by rw [HX.out, ← (decide_eq_true (by omega) : decide ((k.length : Int) ≤ 64) = true)]; rfl, rfl⟩
 ·have HX : Hid (Sto.keyOk k = false) := Lib.hid (by unfold Sto.keyOk; rw [decide_eq_false g, Bool.and_false])
  go_enter Tryz.func107, Tryz.ntmps107
  go_wp2
  go_ret
  exact ⟨by rw [HX.out, ← (decide_eq_false (by omega) : decide ((k.length : Int) ≤ 64) = false)]; rfl, rfl⟩
set_option maxHeartbeats 2000000 in
theorem rfits_any (v : Value) (l : Sto.Pairs) (w : World) (h : PairsAt w v l) (hb : Sto.size l ≤ 4611686018427387904) :
  Calls Tryz.prog 111 #[v] w fun e w' => e = .returned (.bool (Sto.fits l)) ∧ Below w.heap.size w w' := by
 have hs := rsize11_any v l w h hb
 obtain ⟨ao, cap, rfl, hn, hcap, _⟩ := h.read
 have HS := Lib.hid hs
 clear h hs
 by_cases h1 : l.length ≤ 2048
 ·have HX : Hid (Sto.fits l = decide (((Sto.size l : Nat) : Int) ≤ 262144)) := Lib.hid (by
   unfold Sto.fits; rw [decide_eq_true h1, Bool.true_and]
   by_cases h : Sto.size l ≤ 262144
   ·rw [decide_eq_true h, decide_eq_true (by omega)]
   ·rw [decide_eq_false h, decide_eq_false (by omega)])
  obtain ⟨z, hz⟩ : ∃ z, Sto.size l = z := ⟨_, rfl⟩
  rw [hz] at HS HX hb
  clear hz
  go_enter Tryz.func111, Tryz.ntmps111
  go_wp2_with fail
  refine HS.out.mono ?_
  rintro e w1 ⟨rfl, hb1⟩
  go_wp2
  go_ret
  exact ⟨by rw [HX.out]; rfl, hb1⟩
 ·have HX : Hid (Sto.fits l = false) := Lib.hid (by unfold Sto.fits; rw [decide_eq_false h1, Bool.false_and])
  clear HS hb
  go_enter Tryz.func111, Tryz.ntmps111
  go_wp2
  go_ret
  exact ⟨by rw [HX.out]; rfl, Below.refl _ _⟩
set_option maxHeartbeats 2000000 in
theorem rget_any (v : Value) (l : Sto.Pairs) (k : Sto.S) (w : World) (h : PairsAt w v l) :
  Calls Tryz.prog 74 #[v, .string ⟨k.toArray⟩] w fun e w' => e = .returned (.tuple #[.string ⟨((Sto.get l k).getD []).toArray⟩, .bool (Sto.here l k)]) ∧ Below w.heap.size w w' := by
 have hf := rfind_any v l k w h
 obtain ⟨ao, cap, rfl, hn, hcap, hcell⟩ := h.read
 have HF := Lib.hid hf
 have hpl := Sto.place_le l k
 have hgp := Sto.get_place l k
 have hhp := Sto.here_place l k
 obtain ⟨b, hb⟩ : ∃ b, Sto.here l k = b := ⟨_, rfl⟩
 obtain ⟨q, hq⟩ : ∃ q, Sto.place l k = q := ⟨_, rfl⟩
 rw [hb, hq] at HF
 rw [hq] at hgp hhp hpl
 have HB := Lib.hid hb
 cases b with
 | false =>
  have HX : Hid (Sto.get l k = none) := Lib.hid (by
   unfold Sto.here at hb
   cases hg : Sto.get l k with
   | none => rfl
   | some x => rw [hg] at hb; cases hb)
  clear hcell h hf hgp hhp hb hq
  go_enter Tryz.func74, Tryz.ntmps74
  go_wp2_with fail
  refine HF.out.mono ?_
  rintro e w1 ⟨rfl, hb1⟩
  go_wp2
  go_ret2
  exact ⟨by rw [HX.out, HB.out]; rfl, hb1⟩
 | true =>
  obtain ⟨p, hp, hk⟩ : ∃ p, l[q]? = some p ∧ p.1 = k := by
   rw [hb] at hhp
   cases hl : l[q]? with
   | none => rw [hl] at hhp; cases hhp
   | some p => rw [hl] at hhp; exact ⟨p, rfl, by simpa using hhp.symm⟩
  have HX : Hid (Sto.get l k = some p.2) := Lib.hid (by rw [hgp, hp]; simp [hk])
  have hql : q < l.length := (List.getElem?_eq_some_iff.1 hp).1
  obtain ⟨g, rfl, hg, ca, cb⟩ := hcell q p hp
  clear hcell h hf hgp hhp hb hq hp
  go_enter Tryz.func74, Tryz.ntmps74
  go_wp2_with fail
  refine HF.out.mono ?_
  rintro e w1 ⟨rfl, hb1⟩
  have cb1 := cell_later hb1 cb
  go_wp2
  go_ret2
  exact ⟨by rw [HX.out, HB.out]; rfl, hb1⟩
end Go.Proofs.YtpjpknndfhablaaGreat
namespace Go.Proofs.YtpjpknndfhablaaGreat
open Go.RowKit
set_option maxHeartbeats 2000000 in
theorem rsame11_any (v u : Value) (l m : Sto.Pairs) (w : World) (h : PairsAt w v l) (g : PairsAt w u m) :
  Calls Tryz.prog 19 #[v, u] w fun e w' => e = .returned (.bool (decide (l = m))) ∧ Below w.heap.size w w' := by
 obtain ⟨ao, cap, rfl, hn, hcap, hcell⟩ := h.read
 obtain ⟨bo, cap', rfl, hn', hcap', hcell'⟩ := g.read
 have HC : Hid (∀ w' : World, Below w.heap.size w w' → ∀ (j : Nat) p, l[j]? = some p → ∃ g, ao = some ⟨g, 0, none⟩ ∧ g < w.heap.size ∧ w'.cell? ⟨g, j * 2, none⟩ = some (.string ⟨p.1.toArray⟩) ∧ w'.cell? ⟨g, j * 2 + 1, none⟩ = some (.string ⟨p.2.toArray⟩)) := Lib.hid (fun w' hbl j p hj => by
  obtain ⟨g, h1, h2, h3, h4⟩ := hcell j p hj
  exact ⟨g, h1, h2, cell_later hbl h3, cell_later hbl h4⟩)
 have HC' : Hid (∀ w' : World, Below w.heap.size w w' → ∀ (j : Nat) p, m[j]? = some p → ∃ g, bo = some ⟨g, 0, none⟩ ∧ g < w.heap.size ∧ w'.cell? ⟨g, j * 2, none⟩ = some (.string ⟨p.1.toArray⟩) ∧ w'.cell? ⟨g, j * 2 + 1, none⟩ = some (.string ⟨p.2.toArray⟩)) := Lib.hid (fun w' hbl j p hj => by
  obtain ⟨g, h1, h2, h3, h4⟩ := hcell' j p hj
  exact ⟨g, h1, h2, cell_later hbl h3, cell_later hbl h4⟩)
 clear hcell hcell' h g
 by_cases hl : l.length = m.length
 ·rw [hl] at hn
  have HL := Lib.hid hl
  rw [hl]
  clear hl
  go_enter Tryz.func19, Tryz.ntmps19
  go_wp2
  go_loopw [5] (fun i w' => ∃ (j : Nat), i = .int .i64 j ∧ j ≤ m.length ∧ l.take j = m.take j ∧ Below w.heap.size w w') (fun i _ => m.length - (intOf i).toNat)
  case atStart => exact ⟨0, rfl, by omega, by simp, Below.refl _ _⟩
  case round =>
   obtain ⟨j, rfl, hj, ht, hbl⟩ := hrel
   have HT := Lib.hid ht
   have HB := Lib.hid hbl
   by_cases hlt : j < m.length
   ·obtain ⟨p, hp⟩ : ∃ p, l[j]? = some p := ⟨_, List.getElem?_eq_getElem (by rw [HL.out]; exact hlt)⟩
    obtain ⟨q, hq⟩ : ∃ q, m[j]? = some q := ⟨_, List.getElem?_eq_getElem hlt⟩
    obtain ⟨g, rfl, hg, ca, cb⟩ := HC.out _ hbl j p hp
    obtain ⟨g', rfl, hg', ca', cb'⟩ := HC'.out _ hbl j q hq
    have HP := Lib.hid hp
    have HQ := Lib.hid hq
    clear hp hq ht hbl
    by_cases he : p = q
    ·subst he
     go_wp2
     go_quiet (fail)
     go_wp2
     go_round
     all_goals first
      | (simp [intOf]; omega)
      | exact ⟨j + 1, by go_num, by omega, by rw [List.take_add_one, List.take_add_one, HT.out, HP.out, HQ.out], below_drewN HB.out _⟩
      | (trace_state; fail)
    ·have HX : Hid (decide (l = m) = false) := Lib.hid (decide_eq_false (fun e => he (by
      have h1 := HP.out
      rw [e, HQ.out] at h1
      exact (Option.some.inj h1).symm)))
     by_cases hk : p.1 = q.1
     ·have hne : (p.2 == q.2) = false := beq_eq_false_iff_ne.2 (fun e => he (Prod.ext hk e))
      rw [hk] at ca
      go_wp2
      go_quiet (fail)
      go_wp2
      go_ret
      exact ⟨by rw [HX.out]; rfl, below_drewN HB.out _⟩
     ·have hne : (p.1 == q.1) = false := beq_eq_false_iff_ne.2 hk
      go_wp2
      go_quiet (fail)
      go_wp2
      go_ret
      exact ⟨by rw [HX.out]; rfl, below_drewN HB.out _⟩
   ·obtain rfl : j = m.length := by omega
    have HX : Hid (decide (l = m) = true) := Lib.hid (by
     rw [decide_eq_true_eq]
     rw [List.take_length, ← HL.out, List.take_length] at ht
     exact ht)
    clear ht hbl
    go_wp2
    go_ret
    exact ⟨by rw [HX.out]; rfl, HB.out⟩
 ·have HX : Hid (decide (l = m) = false) := Lib.hid (decide_eq_false (fun e => hl (by rw [e])))
  go_enter Tryz.func19, Tryz.ntmps19
  go_wp2
  go_ret
  exact ⟨by rw [HX.out]; rfl, Below.refl _ _⟩
end Go.Proofs.YtpjpknndfhablaaGreat
namespace Go.Proofs.YtpjpknndfhablaaGreat
open Go.RowKit
/-- A value is a slice, or a piece of one, of these pairs. -/
def PieceAt (w : World) (u : Value) (m : Sto.Pairs) : Prop := ∃ ao cap, u = .slice ao m.length cap ∧ (m = [] ∨ ∃ ad, ao = some ad ∧ ∀ j x, (pCells m)[j]? = some x → w.cell? (ad.add j) = some x)
section
variable {P : Program} (w : World)
theorem run_append_none (t ty e : TypeId) (i : TypeInfo) (ht : P.underlying t = some (.slice e)) (hi : P.info? e = some i) (ao : Option Addr) (c : Nat) (v : Value) {base size n : Nat} {xs : List Value} (hv : OwnF w base size v n xs) :
  (Builtin.append_ #[t, t] ty #[v, .slice ao 0 c]).run P w = .ok v w := by
 rcases hv.2 with ⟨rfl, _⟩ | ⟨g, cap, rfl, _, _, hn, _⟩
 ·cases ao <;> simp [Builtin.append_, run_underlying ht, sizeOf, typeInfo, hi, Builtin.lenOf, Builtin.firstCells, loadCells, loadCellsFrom]
 ·cases ao <;> simp [Builtin.append_, run_underlying ht, sizeOf, typeInfo, hi, Builtin.lenOf, Builtin.firstCells, loadCells, loadCellsFrom, storeCells, hn]
end
theorem pairInfo : (Tryz.prog.info? 97).map (fun i => (i.zero, i.size, i.bytes)) = some (some (.agg #[.string ⟨#[]⟩, .string ⟨#[]⟩]), 2, 32) := by kernel_rfl
theorem wpList_append_pairs (w : World) {ops : Array Oper} {rest : List Oper} {o : Oper} {a : Act} {Q : Exit → Act → World → Prop} (hgd : o.guard = none) (s x : Operand)
  (ho : o.op = .call { callee := .builtin .append, args := #[s, x], argTypes := #[42, 42] })
  (base : Nat) (v u : Value) (l m : Sto.Pairs) (hs : a.eval s = v) (hx : a.eval x = u) (hown : OwnF w base 2 v l.length (pCells l)) (hu : PieceAt w u m) (hb : l.length + m.length ≤ 4398046511104) (hbase : base ≤ w.heap.size)
  (h : ∀ v' w', OwnF w' base 2 v' (l ++ m).length (pCells (l ++ m)) → w.grownBy w' v.ownBlock → (v'.ownBlock = v.ownBlock ∨ v'.ownBlock = some w.heap.size) → wpList Tryz.prog ops Q rest (a.put o.dst v') w') : wpList Tryz.prog ops Q (o :: rest) a w := by
 obtain ⟨ao, cap, rfl, hm⟩ := hu
 cases m with
 | nil =>
  refine wpList_plain hgd fun K hK => ?_
  obtain ⟨i, hi, _, _, _⟩ := info_parts pairInfo
  have hr := run_append_none (P := Tryz.prog) w 42 o.type 97 i Tryz.underlying42 hi ao cap v hown
  unfold Oper.wp execOp
  simp only [ho, resolve, invoke, builtin, Sem.run_bind, Sem.run_pure, Result.andThen_ok, List.map_toArray, List.map_cons, List.map_nil, hs, hx, List.length_nil, hr]
  refine hK _ _ (h v w (by rw [List.append_nil]; exact hown) ⟨rfl, rfl, rfl, Nat.le_refl _, fun _ _ _ => rfl⟩ (.inl rfl))
 | cons p r =>
  rcases hm with hm | ⟨ad, rfl, hc⟩
  ·cases hm
  ·refine wpList_append_ownF w hgd s x 42 ho base 97 2 32 _ pairInfo Tryz.underlying42 rfl (by decide) v l.length (pCells l) hs hown ad (p :: r).length cap (pCells (p :: r)) hx (pCells_length _) hc (pCells_one _) (by simp) (by unfold maxLen; omega) (by omega) hbase ?_
   intro v' w' h1 h2 h3
   exact h v' w' (by rw [List.length_append, pCells_append]; exact h1) h2 h3
end Go.Proofs.YtpjpknndfhablaaGreat
namespace Go.Proofs.YtpjpknndfhablaaGreat
open Go.RowKit
theorem ownF_empty (w : World) (t : TypeId) (base : Nat) (hb : base ≤ w.heap.size) : OwnF (w.alloc (.cells #[] t)) base 2 (.slice (some ⟨w.heap.size, 0, none⟩) 0 0) ([] : Sto.Pairs).length (pCells []) :=
 OwnF.of_owns (w := w.alloc (.cells #[] t)) (e := t) (World.ownsRow_made w #[] 0 hb (by decide) (by simp))
theorem pieceAt_one (w : World) (t : TypeId) (k x : Sto.S) : PieceAt (w.alloc (.cells #[.string ⟨k.toArray⟩, .string ⟨x.toArray⟩] t)) (.slice (some ⟨w.heap.size, 0, none⟩) 1 1) [(k, x)] :=
 ⟨_, 1, rfl, .inr ⟨_, rfl, fun i u hi => by
  rw [addr_add, Nat.zero_add]
  exact cell_of (heap_new w _) (by simpa [pCells] using hi)⟩⟩
theorem pCells_drop : ∀ (l : Sto.Pairs) (q : Nat), pCells (l.drop q) = (pCells l).drop (q * 2)
 | l, 0 => by simp
 | [], q + 1 => by simp [pCells]
 | p :: r, q + 1 => by rw [List.drop_succ_cons, pCells_drop r q, show (q + 1) * 2 = q * 2 + 1 + 1 by omega]; simp [pCells]
theorem pCells_take : ∀ (l : Sto.Pairs) (q : Nat), pCells (l.take q) = (pCells l).take (q * 2)
 | l, 0 => by simp [pCells]
 | [], q + 1 => by simp [pCells]
 | p :: r, q + 1 => by rw [List.take_succ_cons, show (q + 1) * 2 = q * 2 + 1 + 1 by omega]; simp [pCells, pCells_take r q]
theorem PieceAt.take {w : World} {g cap q : Nat} {l : Sto.Pairs} (hx : ∀ j u, (pCells l)[j]? = some u → w.cell? ⟨g, j, none⟩ = some u) (hq : q ≤ l.length) : PieceAt w (.slice (some ⟨g, 0, none⟩) q cap) (l.take q) :=
 ⟨_, cap, by rw [List.length_take, Nat.min_eq_left hq], .inr ⟨_, rfl, fun j u hu => by
  rw [pCells_take] at hu
  rw [addr_add, Nat.zero_add]
  exact hx j u (by
   rcases Nat.lt_or_ge j (q * 2) with h | h
   ·rwa [List.getElem?_take_of_lt h] at hu
   ·rw [List.getElem?_eq_none (by rw [List.length_take]; omega)] at hu; cases hu)⟩⟩
theorem PieceAt.drop {w : World} {g cap q : Nat} {l : Sto.Pairs} (hn : l.length ≤ cap) (hx : ∀ j u, (pCells l)[j]? = some u → w.cell? ⟨g, j, none⟩ = some u) :
  PieceAt w (.slice (if cap = q then some ⟨g, 0, none⟩ else some ⟨g, q * 2, none⟩) (l.length - q) (cap - q)) (l.drop q) := by
 refine ⟨_, cap - q, by rw [List.length_drop], ?_⟩
 by_cases h : cap = q
 ·exact .inl (List.drop_eq_nil_iff.2 (by omega))
 ·rw [if_neg h]
  refine .inr ⟨_, rfl, fun j u hu => ?_⟩
  rw [pCells_drop, List.getElem?_drop] at hu
  rw [addr_add]
  exact hx _ u hu
theorem below_grown {base : Nat} {w w' w'' : World} {row : Option Nat} (hb : Below base w w') (hbase : base ≤ w'.heap.size) (hg : w'.grownBy w'' row) (hrow : ∀ k, row = some k → base ≤ k) : Below base w w'' :=
 hb.trans ⟨hg.os, hg.tape, hg.output, hg.size, fun k hk => hg.block k (by omega) (fun e => by have := hrow k e.symm; omega)⟩
theorem OwnF.zero {w : World} {base size : Nat} {v : Value} {n : Nat} {xs : List Value} (h : OwnF w base size v n xs) : OwnF w 0 size v n xs := by
 refine ⟨h.1, ?_⟩
 rcases h.2 with h0 | ⟨g, cap, rfl, _, hg⟩
 ·exact .inl h0
 ·exact .inr ⟨g, cap, rfl, Nat.zero_le _, hg⟩
set_option maxHeartbeats 4000000 in
set_option maxRecDepth 100000 in
theorem rwith_any (v : Value) (l : Sto.Pairs) (k x : Sto.S) (w : World) (h : PairsAt w v l) (hb : l.length + 1 ≤ 4398046511104) :
  Calls Tryz.prog 109 #[v, .string ⟨k.toArray⟩, .string ⟨x.toArray⟩] w fun e w' => ∃ v', e = .returned v' ∧ PairsAt w' v' (Sto.put l k x) ∧ (∀ g, v'.ownBlock = some g → w.heap.size ≤ g) ∧ Below w.heap.size w w' := by
 have hf := rfind_any v l k w h
 have HF := Lib.hid hf
 have hpl := Sto.place_le l k
 have hhp := Sto.here_place l k
 have hput := Sto.put_place l k x
 obtain ⟨b, hbe⟩ : ∃ b, Sto.here l k = b := ⟨_, rfl⟩
 obtain ⟨q, hq⟩ : ∃ q, Sto.place l k = q := ⟨_, rfl⟩
 rw [hbe, hq] at HF hput
 rw [hq] at hpl
 rw [hq, hbe] at hhp
 have HX := Lib.hid hput
 have hqb : q + (if b = true then 1 else 0) ≤ l.length := by
  cases b with
  | false => simpa using hpl
  | true =>
   rcases Nat.lt_or_ge q l.length with h | h
   ·simp; omega
   ·rw [List.getElem?_eq_none h] at hhp; cases hhp
 rcases h.2 with ⟨rfl, h0⟩ | ⟨g, cap, rfl, _, hg, hn, hcap, _, hx⟩
 ·have : l = [] := List.eq_nil_of_length_eq_zero h0
  subst this
  have hq' : 0 = q := hq
  subst hq'
  have hb' : false = b := hbe
  subst hb'
  clear h h0 hf hput hhp hbe hpl hqb hq hb
  go_enter Tryz.func109, Tryz.ntmps109
  go_wp2_with fail
  refine HF.out.mono ?_
  rintro e w1 ⟨rfl, hb1⟩
  have HB1 := Lib.hid hb1
  clear hb1
  go_wp2_with (first
   | (at_builtin; refine wpList_append_pairs _ rfl (.tmp 29) (.tmp 32) rfl w.heap.size v3 _ [(k, x)] [] rfl rfl HO3.out ⟨_, _, rfl, .inl rfl⟩ (by simp) HB3.out.size ?_; intro v4 w4 ho4 hgr4 _; have HO4 := Lib.hid ho4; have HB4 := Lib.hid (below_grown HB3.out HB3.out.size hgr4 (fun k hk => (HO3.out.lt k hk).1)); clear ho4 hgr4)
   | (at_builtin; refine wpList_append_pairs _ rfl (.tmp 20) (.tmp 24) rfl w.heap.size v2 _ [] [(k, x)] rfl rfl (HO2.out.touch (S := fun _ => False) (.of_below (balloc w2 _)) (fun _ _ h => h)) (pieceAt_one w2 _ k x) (by simp) (bthen HB2.out (balloc _ _)).size ?_; intro v3 w3 ho3 hgr3 _; have HO3 := Lib.hid ho3; have HB3 := Lib.hid (below_grown (bthen HB2.out (balloc _ _)) (bthen HB2.out (balloc _ _)).size hgr3 (fun k hk => (HO2.out.lt k hk).1)); clear ho3 hgr3)
   | (at_builtin; refine wpList_append_pairs _ rfl (.tmp 16) (.tmp 19) rfl w.heap.size _ _ [] [] rfl rfl (ownF_empty _ _ _ HB1.out.size) ⟨_, _, rfl, .inl rfl⟩ (by simp) (bthen HB1.out (balloc _ _)).size ?_; intro v2 w2 ho2 hgr2 _; have HO2 := Lib.hid ho2; have HB2 := Lib.hid (below_grown (bthen HB1.out (balloc _ _)) (bthen HB1.out (balloc _ _)).size hgr2 (fun k hk => ((ownF_empty w1 97 w.heap.size HB1.out.size).lt k hk).1)); clear ho2 hgr2))
  all_goals go_ret
  all_goals exact ⟨v4, rfl, by rw [HX.out]; have := HO4.out.zero; simpa [PairsAt] using this, fun g hg => (HO4.out.lt g hg).1, HB4.out⟩
 ·have HC := Lib.hid hx
  unfold maxLen at hcap
  clear hx h hf hput hhp hbe hq
  cases b with
  | false =>
   simp only [Bool.false_eq_true, if_false, Nat.add_zero] at hqb HX
   go_enter Tryz.func109, Tryz.ntmps109
   go_wp2_with fail
   refine HF.out.mono ?_
   rintro e w1 ⟨rfl, hb1⟩
   have HB1 := Lib.hid hb1
   clear hb1
   go_wp2_with (first
    | (at_builtin; refine wpList_append_pairs _ rfl (.tmp 29) (.tmp 32) rfl w.heap.size v3 _ ([] ++ l.take q ++ [(k, x)]) (l.drop q) rfl rfl HO3.out (PieceAt.drop hn (fun j u hj => cell_later HB3.out (HC.out j u hj))) (by simp; omega) HB3.out.size ?_; intro v4 w4 ho4 hgr4 _; have HO4 := Lib.hid ho4; have HB4 := Lib.hid (below_grown HB3.out HB3.out.size hgr4 (fun k hk => (HO3.out.lt k hk).1)); clear ho4 hgr4)
    | (at_builtin; refine wpList_append_pairs _ rfl (.tmp 20) (.tmp 24) rfl w.heap.size v2 _ ([] ++ l.take q) [(k, x)] rfl rfl (HO2.out.touch (S := fun _ => False) (.of_below (balloc w2 _)) (fun _ _ h => h)) (pieceAt_one w2 _ k x) (by simp; omega) (bthen HB2.out (balloc _ _)).size ?_; intro v3 w3 ho3 hgr3 _; have HO3 := Lib.hid ho3; have HB3 := Lib.hid (below_grown (bthen HB2.out (balloc _ _)) (bthen HB2.out (balloc _ _)).size hgr3 (fun k hk => (HO2.out.lt k hk).1)); clear ho3 hgr3)
    | (at_builtin; refine wpList_append_pairs _ rfl (.tmp 16) (.tmp 19) rfl w.heap.size _ _ [] (l.take q) rfl rfl (ownF_empty _ _ _ HB1.out.size) (PieceAt.take (fun j u hj => cell_later (bthen HB1.out (balloc _ _)) (HC.out j u hj)) (by omega)) (by simp; omega) (bthen HB1.out (balloc _ _)).size ?_; intro v2 w2 ho2 hgr2 _; have HO2 := Lib.hid ho2; have HB2 := Lib.hid (below_grown (bthen HB1.out (balloc _ _)) (bthen HB1.out (balloc _ _)).size hgr2 (fun k hk => ((ownF_empty w1 97 w.heap.size HB1.out.size).lt k hk).1)); clear ho2 hgr2))
   all_goals go_ret
   all_goals exact ⟨v4, rfl, by rw [HX.out]; have := HO4.out.zero; simpa [PairsAt] using this, fun g hg => (HO4.out.lt g hg).1, HB4.out⟩
  | true =>
   simp only [if_true] at hqb HX
   go_enter Tryz.func109, Tryz.ntmps109
   go_wp2_with fail
   refine HF.out.mono ?_
   rintro e w1 ⟨rfl, hb1⟩
   have HB1 := Lib.hid hb1
   clear hb1
   go_wp2_with (first
    | (at_builtin; refine wpList_append_pairs _ rfl (.tmp 29) (.tmp 32) rfl w.heap.size v3 _ ([] ++ l.take q ++ [(k, x)]) (l.drop (q + 1)) rfl rfl HO3.out (PieceAt.drop hn (fun j u hj => cell_later HB3.out (HC.out j u hj))) (by simp; omega) HB3.out.size ?_; intro v4 w4 ho4 hgr4 _; have HO4 := Lib.hid ho4; have HB4 := Lib.hid (below_grown HB3.out HB3.out.size hgr4 (fun k hk => (HO3.out.lt k hk).1)); clear ho4 hgr4)
    | (at_builtin; refine wpList_append_pairs _ rfl (.tmp 20) (.tmp 24) rfl w.heap.size v2 _ ([] ++ l.take q) [(k, x)] rfl rfl (HO2.out.touch (S := fun _ => False) (.of_below (balloc w2 _)) (fun _ _ h => h)) (pieceAt_one w2 _ k x) (by simp; omega) (bthen HB2.out (balloc _ _)).size ?_; intro v3 w3 ho3 hgr3 _; have HO3 := Lib.hid ho3; have HB3 := Lib.hid (below_grown (bthen HB2.out (balloc _ _)) (bthen HB2.out (balloc _ _)).size hgr3 (fun k hk => (HO2.out.lt k hk).1)); clear ho3 hgr3)
    | (at_builtin; refine wpList_append_pairs _ rfl (.tmp 16) (.tmp 19) rfl w.heap.size _ _ [] (l.take q) rfl rfl (ownF_empty _ _ _ HB1.out.size) (PieceAt.take (fun j u hj => cell_later (bthen HB1.out (balloc _ _)) (HC.out j u hj)) (by omega)) (by simp; omega) (bthen HB1.out (balloc _ _)).size ?_; intro v2 w2 ho2 hgr2 _; have HO2 := Lib.hid ho2; have HB2 := Lib.hid (below_grown (bthen HB1.out (balloc _ _)) (bthen HB1.out (balloc _ _)).size hgr2 (fun k hk => ((ownF_empty w1 97 w.heap.size HB1.out.size).lt k hk).1)); clear ho2 hgr2))
   all_goals go_ret
   all_goals exact ⟨v4, rfl, by rw [HX.out]; have := HO4.out.zero; simpa [PairsAt] using this, fun g hg => (HO4.out.lt g hg).1, HB4.out⟩
end Go.Proofs.YtpjpknndfhablaaGreat
namespace Go.Proofs.YtpjpknndfhablaaGreat
open Go.RowKit
namespace Sto
def from_ (k : S) (l : Pairs) : Pairs := l.filter fun p => !lt p.1 k
theorem from_take_succ {l : Pairs} {j : Nat} {p : S × S} (k : S) (h : l[j]? = some p) : from_ k (l.take (j + 1)) = from_ k (l.take j) ++ if lt p.1 k then [] else [p] := by
 unfold from_
 rw [List.take_add_one, h, List.filter_append]
 congr 1
 cases hl : lt p.1 k <;> simp [hl]
theorem from_take_le (k : S) (l : Pairs) (j : Nat) : (from_ k (l.take j)).length ≤ j := by
 unfold from_
 have h1 := List.length_filter_le (fun p => !lt p.1 k) (l.take j)
 rw [List.length_take] at h1
 omega
theorem scan_stop {l : Pairs} {k : S} {j n : Nat} (h : (from_ k (l.take j)).length = n) : scan l k n = from_ k (l.take j) := by
 have e : l.filter (fun p => !lt p.1 k) = from_ k (l.take j) ++ from_ k (l.drop j) := by
  unfold from_
  rw [← List.filter_append, List.take_append_drop]
 unfold scan
 rw [e, ← h, List.take_left]
theorem scan_end {l : Pairs} {k : S} {n : Nat} (h : (from_ k l).length ≤ n) : scan l k n = from_ k l := by
 unfold scan
 exact List.take_of_length_le h
end Sto
set_option maxHeartbeats 4000000 in
set_option maxRecDepth 100000 in
theorem rscan_any (v : Value) (l : Sto.Pairs) (k : Sto.S) (most : Int) (w : World) (h : PairsAt w v l) (hb : l.length ≤ 2199023255552) (_hm : most ≤ 9223372036854775807) :
  Calls Tryz.prog 76 #[v, .string ⟨k.toArray⟩, .int .i64 most] w fun e w' => ∃ v', e = .returned v' ∧ PairsAt w' v' (Sto.scan l k most.toNat) ∧ (∀ g, v'.ownBlock = some g → w.heap.size ≤ g) ∧ Below w.heap.size w w' := by
 obtain ⟨ao, cap, rfl, hn, hcap, hcell⟩ := h.read
 have HC : Hid (∀ w' : World, Below w.heap.size w w' → ∀ (j : Nat) p, l[j]? = some p → ∃ g, ao = some ⟨g, 0, none⟩ ∧ g < w.heap.size ∧ w'.cell? ⟨g, j * 2, none⟩ = some (.string ⟨p.1.toArray⟩) ∧ w'.cell? ⟨g, j * 2 + 1, none⟩ = some (.string ⟨p.2.toArray⟩)) := Lib.hid (fun w' hbl j p hj => by
  obtain ⟨g, h1, h2, h3, h4⟩ := hcell j p hj
  exact ⟨g, h1, h2, cell_later hbl h3, cell_later hbl h4⟩)
 clear hcell h
 go_enter Tryz.func76, Tryz.ntmps76
 go_wp2
 go_loopw [7, 8] (fun vo i wr => ∃ (j n : Nat) (ob : Option Addr) (oc : Nat), vo = .slice ob n oc ∧ i = .int .i64 j ∧ j ≤ l.length ∧ n = (Sto.from_ k (l.take j)).length ∧ n ≤ most.toNat ∧ n ≤ oc ∧ oc ≤ 9223372036854775807 ∧
  OwnF wr w.heap.size 2 (.slice ob n oc) n (pCells (Sto.from_ k (l.take j))) ∧ Below w.heap.size w wr) (fun _ i _ => l.length - (intOf i).toNat)
 case atStart => exact ⟨0, 0, _, 0, rfl, rfl, by omega, by simp [Sto.from_], by omega, by omega, by omega, by simpa [Sto.from_] using ownF_empty w 97 w.heap.size (Nat.le_refl _), balloc _ _⟩
 case round =>
  obtain ⟨j, n, ob, oc, rfl, rfl, hj, hnl, hnm, hno, hoc, ho, hbl⟩ := hrel
  have HO := Lib.hid ho
  have HB := Lib.hid hbl
  have HN := Lib.hid hnl
  have hnj : n ≤ j := by rw [hnl]; exact Sto.from_take_le k l j
  by_cases hlt : j < l.length
  ·by_cases hmo : (n : Int) < most
   ·obtain ⟨p, hs⟩ : ∃ p, l[j]? = some p := ⟨_, List.getElem?_eq_getElem hlt⟩
    obtain ⟨g, rfl, hg, ca, cb⟩ := HC.out _ hbl j p hs
    have hsucc := Sto.from_take_succ k hs
    clear hs ho hbl hnl
    cases hpk : Sto.lt p.1 k with
    | true =>
     have hle : Op.bytesLess p.1 k = true := hpk
     rw [hpk, if_pos rfl, List.append_nil] at hsucc
     have HS := Lib.hid hsucc
     clear hsucc hpk
     go_wp2
     go_round
     all_goals first
      | (simp [intOf]; omega)
      | exact ⟨j + 1, n, _, _, by go_num, by go_num, by omega, by rw [HS.out]; exact HN.out, hnm, hno, hoc, by rw [HS.out]; exact HO.out, HB.out⟩
    | false =>
     have hle : Op.bytesLess p.1 k = false := hpk
     rw [hpk, if_neg (by decide)] at hsucc
     have HS := Lib.hid hsucc
     clear hsucc hpk
     go_wp2_with (at_builtin; go_must (refine wpList_append_pairs _ rfl (.tmp 29) (.tmp 34) rfl w.heap.size (.slice ob n oc) _ (Sto.from_ k (l.take j)) [p] rfl rfl (by rw [← HN.out]; exact HO.out.touch (S := fun _ => False) (.of_below (balloc _ _)) (fun _ _ h => h)) (pieceAt_one _ _ p.1 p.2) (by rw [← HN.out]; simp; omega) (bthen HB.out (balloc _ _)).size ?_; intro v2 w2 ho2 hgr2 _; have HB2 := Lib.hid (below_grown (bthen HB.out (balloc _ _)) (bthen HB.out (balloc _ _)).size hgr2 (fun k hk => (HO.out.lt k hk).1)); obtain ⟨ob2, oc2, rfl, hno2, hoc2⟩ := ho2.slice; have HO2 := Lib.hid ho2; clear ho2 hgr2))
     go_round
     all_goals first
      | (simp [intOf]; omega)
      | exact ⟨j + 1, _, _, _, rfl, by go_num, by omega, by rw [HS.out]; simp, by rw [← HN.out]; omega, by simpa using hno2, hoc2, by rw [HS.out]; simpa using HO2.out, HB2.out⟩
   ·have HX : Hid (Sto.scan l k most.toNat = Sto.from_ k (l.take j)) := Lib.hid (Sto.scan_stop (by omega))
    clear ho hbl hnl
    go_wp2
    go_ret
    exact ⟨_, rfl, by rw [HX.out]; have := HO.out.zero; rw [PairsAt, ← HN.out]; exact this, fun g hg => (HO.out.lt g hg).1, HB.out⟩
  ·obtain rfl : j = l.length := by omega
   rw [List.take_length] at HO HN hnl
   have HX : Hid (Sto.scan l k most.toNat = Sto.from_ k l) := Lib.hid (Sto.scan_end (by omega))
   clear ho hbl hnl
   go_wp2
   go_ret
   exact ⟨_, rfl, by rw [HX.out]; have := HO.out.zero; rw [PairsAt, ← HN.out]; exact this, fun g hg => (HO.out.lt g hg).1, HB.out⟩
end Go.Proofs.YtpjpknndfhablaaGreat
namespace Go.Proofs.YtpjpknndfhablaaGreat
open Go.RowKit

section
variable (x y : U32)
theorem x_ofInt : BitVec.ofInt 32 (x.toNat : Int) = x := by simp
theorem x_wrap (n : Nat) : IntKind.u32.wrap (n : Int) = ((BitVec.ofNat 32 n).toNat : Int) := by rw [IntKind.wrap_u32, BitVec.toNat_ofNat]; omega
theorem x_bits (f : U32 → U32 → U32) (z : U32) (h : z = f x y) : IntKind.u32.wrap ((f (BitVec.ofInt 32 (x.toNat : Int)) (BitVec.ofInt 32 (y.toNat : Int))).toNat : Int) = (z.toNat : Int) := by
 rw [x_ofInt, x_ofInt, x_wrap, h]; simp
theorem x_xor : bits .xor .u32 (x.toNat : Int) (y.toNat : Int) = ((x ^^^ y).toNat : Int) := x_bits x y (· ^^^ ·) _ rfl
theorem x_and : bits .and .u32 (x.toNat : Int) (y.toNat : Int) = ((x &&& y).toNat : Int) := x_bits x y (· &&& ·) _ rfl
theorem x_not : bits .xor .u32 4294967295 (x.toNat : Int) = ((~~~x).toNat : Int) := by
 have h := x_xor (BitVec.allOnes 32) x
 rw [BitVec.allOnes_xor] at h
 exact h
end
theorem u64_or_low (n b : Nat) (hn : n * 256 < 18446744073709551616) (hb : b < 256) : bits .or .u64 ((n : Int) * 256) (b : Int) = ((n * 256 + b : Nat) : Int) := by
 have e : bits .or .u64 ((n : Int) * 256) (b : Int) = bits .or .u64 (b : Int) ((n : Int) * 256) := by simp [bits, BitVec.or_comm]
 rw [e, u64_or8 _ _ (by omega) (by omega) (by omega) (by omega) (by omega)]
 omega
namespace Sha
theorem val_lt (l : List UInt8) : val l < 256 ^ l.length := by
 have key : ∀ (l : List UInt8) (n m : Nat), n < 256 ^ m → l.foldl (fun n b => n * 256 + b.toNat) n < 256 ^ (m + l.length) := by
  intro l
  induction l with
  | nil => intro n m h; simpa using h
  | cons b l ih =>
   intro n m h
   simp only [List.foldl_cons, List.length_cons]
   rw [show m + (l.length + 1) = (m + 1) + l.length by omega]
   refine ih _ _ ?_
   have := b.toNat_lt
   rw [Nat.pow_succ]; omega
 simpa [val] using key l 0 0 (by simp)
theorem val_snoc (l : List UInt8) (b : UInt8) : val (l ++ [b]) = val l * 256 + b.toNat := by simp [val]
theorem big_take (n k j : Nat) (h : j < k) : (big n k).take (j + 1) = (big n k).take j ++ [UInt8.ofNat (n / 256 ^ (k - 1 - j))] := by
 induction k generalizing n with
 | zero => omega
 | succ k ih =>
  simp only [big]
  by_cases hj : j < k
  ·rw [List.take_append_of_le_length (by rw [big_length]; omega), List.take_append_of_le_length (by rw [big_length]; omega), ih _ hj, Nat.div_div_eq_div_mul, ← Nat.pow_succ']
   rw [show (k - 1 - j).succ = k + 1 - 1 - j by omega]
  ·obtain rfl : j = k := by omega
   have hl := big_length (n / 256) j
   rw [List.take_of_length_le (by simp [hl]), List.take_append_of_le_length (by omega), List.take_of_length_le (by omega)]
   simp
end Sha
theorem u8_big (n m : Nat) : ((n : Int) / 2 ^ (8 * m) % 256) = ((UInt8.ofNat (n / 256 ^ m)).toNat : Int) := by
 rw [UInt8.toNat_ofNat', show (256 : Nat) ^ m = 2 ^ (8 * m) by rw [Nat.pow_mul], Int.natCast_emod, Int.natCast_ediv, Int.natCast_pow]; rfl
end Go.Proofs.YtpjpknndfhablaaGreat
namespace Go.Proofs.YtpjpknndfhablaaGreat
open Go.RowKit
theorem u32_low1 {r : U32} (h : r &&& 1 = 1) : bits .and .u32 (r.toNat : Int) 1 = 1 := by
 have := x_and r 1
 rw [h] at this
 exact this
theorem u32_low0 {r : U32} (h : ¬ (r &&& 1 = 1)) : bits .and .u32 (r.toNat : Int) 1 = 0 := by
 have e : r &&& 1 = 0 := by
  apply BitVec.eq_of_toNat_eq
  have h1 : (r &&& 1).toNat = r.toNat % 2 := by rw [BitVec.toNat_and]; exact Nat.and_one_is_mod _
  have h2 : ¬ (r &&& 1).toNat = 1 := fun h2 => h (BitVec.eq_of_toNat_eq h2)
  rw [h1] at h2 ⊢
  show r.toNat % 2 = 0
  omega
 have := x_and r 1
 rw [e] at this
 exact this
theorem u32_half (r : U32) : (r.toNat : Int) / (2 : Int) = ((r >>> 1).toNat : Int) := by rw [BitVec.toNat_ushiftRight, Nat.shiftRight_eq_div_pow]; rfl
theorem u32_poly (r : U32) : bits .xor .u32 ((r >>> 1).toNat : Int) 3988292384 = ((r >>> 1 ^^^ Crc.poly).toNat : Int) := x_xor (r >>> 1) Crc.poly
theorem u32_mix (r : U32) (x : UInt8) : bits .xor .u32 (r.toNat : Int) (x.toNat : Int) = ((r ^^^ BitVec.ofNat 32 x.toNat).toNat : Int) := by
 have h := x_xor r (BitVec.ofNat 32 x.toNat)
 have e : (BitVec.ofNat 32 x.toNat).toNat = x.toNat := by have := x.toNat_lt; rw [BitVec.toNat_ofNat]; omega
 rw [e] at h
 exact h
set_option maxHeartbeats 1000000 in
theorem wsum_any (l : List UInt8) (w : World) (hl : l.length ≤ 140737488355328) :
  Calls Tryz.prog 147 #[.string ⟨l.toArray⟩] w fun e w' => e = .returned (.int .u32 (Wal.crc l)) ∧ w = w' := by
 go_enter Tryz.func147, Tryz.ntmps147
 go_wp2
 go_loop [3, 8] (fun r i => ∃ k : Nat, k ≤ l.length ∧ i = .int .i64 k ∧ r = .int .u32 (((l.take k).foldl Crc.byte 0xffffffff).toNat)) (fun _ i => l.length - (intOf i).toNat)
 case atStart => exact ⟨0, by omega, rfl, rfl⟩
 case round =>
  obtain ⟨k, hk, rfl, rfl⟩ := hrel
  obtain ⟨r, hr⟩ : ∃ r, (l.take k).foldl Crc.byte 0xffffffff = r := ⟨_, rfl⟩
  rw [hr]
  have HR := Lib.hid hr
  clear hr
  by_cases hkl : k < l.length
  ·obtain ⟨x, hx⟩ : ∃ x, l[k]'hkl = x := ⟨_, rfl⟩
   have hb := x.toNat_lt
   have HS : Hid ((l.take (k + 1)).foldl Crc.byte 0xffffffff = Crc.steps 8 (r ^^^ BitVec.ofNat 32 x.toNat)) := by
    rw [List.take_succ_eq_append_getElem hkl, List.foldl_append, HR.out, hx]; rfl
   have HX := Lib.hid (u32_mix r x)
   have hx2 : (⟨l.toArray⟩ : ByteArray)[k]'hkl = x := hx
   clear hx
   go_wp2
   go_loop [3, 17] (fun q i => ∃ j : Nat, j ≤ 8 ∧ i = .int .i64 j ∧ q = .int .u32 (Crc.steps j (r ^^^ BitVec.ofNat 32 x.toNat)).toNat) (fun _ i => 8 - (intOf i).toNat)
   case atStart => exact ⟨0, by omega, rfl, val_int HX.out⟩
   case round =>
    obtain ⟨j, hj, rfl, rfl⟩ := hrel
    obtain ⟨q, hq⟩ : ∃ q, Crc.steps j (r ^^^ BitVec.ofNat 32 x.toNat) = q := ⟨_, rfl⟩
    rw [hq]
    have HQ := Lib.hid hq
    clear hq
    by_cases hj8 : j < 8
    ·by_cases hq1 : q &&& 1 = 1
     ·have HN : Hid (Crc.steps (j + 1) (r ^^^ BitVec.ofNat 32 x.toNat) = q >>> 1 ^^^ Crc.poly) := Lib.hid (by rw [Crc.steps, HQ.out, Crc.step, if_pos hq1])
      have hA := u32_low1 hq1
      have HB := Lib.hid (u32_half q)
      have HC := Lib.hid (u32_poly q)
      clear hq1
      go_wp2
      go_round
      case rel => exact ⟨j + 1, by omega, by go_num, by rw [HN.out, ← HC.out, ← HB.out]⟩
      case measure => simp [intOf]; omega
     ·have HN : Hid (Crc.steps (j + 1) (r ^^^ BitVec.ofNat 32 x.toNat) = q >>> 1) := Lib.hid (by rw [Crc.steps, HQ.out, Crc.step, if_neg hq1])
      have hA := u32_low0 hq1
      have HB := Lib.hid (u32_half q)
      clear hq1
      go_wp2
      go_round
      case rel => exact ⟨j + 1, by omega, by go_num, by rw [HN.out, ← HB.out]⟩
      case measure => simp [intOf]; omega
    ·obtain rfl : j = 8 := by omega
     go_wp2
     go_round
     case rel => exact ⟨k + 1, by omega, by go_num, by rw [HS.out, HQ.out]⟩
     case measure => simp [intOf]; omega
  ·obtain rfl : k = l.length := by omega
   have HN : Hid (bits .xor .u32 IntKind.u32.max (r.toNat : Int) = ((~~~r).toNat : Int)) := Lib.hid (x_not r)
   go_wp2
   go_ret
   refine ⟨ret_int ?_, rfl⟩
   rw [HN.out, Wal.crc, Crc.sum, ← HR.out, List.take_length]
theorem bytes_set_front (L : List UInt8) (n k : Nat) (h : k < L.length) (hn : k < n) : (L.take k ++ List.replicate (n - k) 0).set k (L[k]'h) = L.take (k + 1) ++ List.replicate (n - (k + 1)) 0 := by
 have hl : (L.take k).length = k := by simp; omega
 rw [List.set_append_right _ _ (by omega), hl, Nat.sub_self, show n - k = (n - (k + 1)) + 1 by omega, List.replicate_succ, List.set_cons_zero, List.take_succ_eq_append_getElem h, List.append_assoc]
 rfl
set_option maxHeartbeats 1000000 in
theorem of_any (l : List UInt8) (w : World) (hl : l.length ≤ 8) :
  Calls Tryz.prog 146 #[.string ⟨l.toArray⟩] w fun e w' => e = .returned (.int .u64 (Sha.val l)) ∧ w = w' := by
 go_enter Tryz.func146, Tryz.ntmps146
 go_wp2
 go_loop [3, 7] (fun n i => ∃ k : Nat, k ≤ l.length ∧ i = .int .i64 k ∧ n = .int .u64 (Sha.val (l.take k))) (fun _ i => l.length - (intOf i).toNat)
 case atStart => exact ⟨0, by omega, rfl, rfl⟩
 case round =>
  obtain ⟨k, hk, rfl, rfl⟩ := hrel
  obtain ⟨m, hm⟩ : ∃ m, Sha.val (l.take k) = m := ⟨_, rfl⟩
  have hlt := Sha.val_lt (l.take k)
  rw [hm] at hlt ⊢
  have HM := Lib.hid hm
  clear hm
  by_cases hkl : k < l.length
  ·have hp : (256 : Nat) ^ (l.take k).length ≤ 256 ^ 7 := Nat.pow_le_pow_right (by decide) (by simp; omega)
   have hm' : m * 256 < 18446744073709551616 := by
    have : (256 : Nat) ^ 7 = 72057594037927936 := rfl
    omega
   have hb := (l[k]'hkl).toNat_lt
   have HS := Lib.hid ((congrArg Sha.val (List.take_succ_eq_append_getElem hkl)).trans (Sha.val_snoc _ _))
   have HO := Lib.hid (u64_or_low m (l[k]'hkl).toNat hm' (by omega))
   clear hlt hp
   go_wp2
   go_round
   case rel => exact ⟨k + 1, by omega, by go_num, by rw [HS.out, HM.out]; exact val_int (show bits .or .u64 ((m : Int) * 256) (IntKind.u64.wrap (((l[k]'hkl).toNat : Nat) : Int)) = _ from by rw [IntWalk.u64_in _ ⟨by omega, by omega⟩]; exact HO.out)⟩
   case measure => simp [intOf]; omega
  ·obtain rfl : k = l.length := by omega
   clear hlt
   go_wp2
   go_ret
   exact ⟨ret_int (by rw [← HM.out, List.take_length]), rfl⟩
/-- A row of bytes that lies in a block, none of them frozen. -/
def RowB (w : World) (g : Nat) (l : List UInt8) : Prop := g < w.heap.size ∧ ∀ (j : Nat) (x : UInt8), l[j]? = some x → w.cell? ⟨g, j, none⟩ = some (.int .u8 x.toNat) ∧ w.frozen? ⟨g, j, none⟩ = false
theorem RowB.set {w : World} {g : Nat} {l : List UInt8} (h : RowB w g l) (k : Nat) (x : UInt8) : RowB (w.setCell ⟨g, k, none⟩ (.int .u8 x.toNat)) g (l.set k x) := by
 refine ⟨by simpa using h.1, fun j y hj => ?_⟩
 by_cases e : j = k
 ·subst e
  have hlt : j < l.length := by have := (List.getElem?_eq_some_iff.1 hj).1; simpa using this
  have hc := h.2 j _ (List.getElem?_eq_getElem hlt)
  rw [List.getElem?_set_self hlt] at hj
  cases hj
  exact ⟨World.cell?_setCell_same' _ _ _ (by rw [hc.1]; rfl), by rw [World.frozen?_setCell]; exact hc.2⟩
 ·rw [List.getElem?_set_ne (Ne.symm e)] at hj
  have hc := h.2 j y hj
  exact ⟨by rw [World.cell?_setCell_other _ _ _ _ (by intro h; simp only [Addr.mk.injEq] at h; omega)]; exact hc.1, by rw [World.frozen?_setCell]; exact hc.2⟩
theorem make8 (n : Nat) (m : Int) (hm : m = n) (hn : n ≤ 1000) (w : World) : ∃ w', (Instr.makeSlice 175 (.int .i64 m) (.int .i64 m)).run Tryz.prog w = .ok (.slice (some ⟨w.heap.size, 0, none⟩) n n) w' ∧ RowB w' w.heap.size (List.replicate n 0) ∧ Below w.heap.size w w' := by
 subst hm
 refine ⟨_, run_make_row' 175 5 (.int .u8 0) 1 Tryz.underlying175 Tryz.byteInfo rfl .i64 .i64 n (by omega) (by omega) w, ?_, balloc _ _⟩
 refine ⟨heap_lt (heap_new w _), fun j v hj => ⟨cell_of (heap_new w _) ?_, free_of (heap_new w _) j⟩⟩
 have hjn : j < n := by have := (List.getElem?_eq_some_iff.1 hj).1; simpa using this
 simp [hjn] at hj
 subst hj
 simp [madeCells, hjn, Nat.mod_one]
theorem ownF_row {w : World} {g base : Nat} {l : List UInt8} (h : RowB w g l) (hb : base ≤ g) (hl : l.length ≤ maxLen) : OwnF w base 1 (.slice (some ⟨g, 0, none⟩) l.length l.length) l.length (bytesOf l) := by
 refine ⟨by simp [bytesOf], .inr ⟨g, l.length, rfl, hb, h.1, Nat.le_refl _, hl, fun j hj => ?_, fun j u hu => ?_⟩⟩
 ·have hc := h.2 j _ (List.getElem?_eq_getElem (by omega))
  exact ⟨by rw [hc.1]; rfl, hc.2⟩
 ·simp only [bytesOf, List.getElem?_map] at hu
  obtain ⟨x, hx, rfl⟩ := Option.map_eq_some_iff.1 hu
  exact (h.2 j x hx).1
set_option maxHeartbeats 2000000 in
theorem put_any (n k : Nat) (w : World) (hk : k ≤ 8) (_hn : n < 18446744073709551616) :
  Calls Tryz.prog 141 #[.int .u64 n, .int .i64 k] w fun e w' => e = .returned (.string ⟨(Sha.big n k).toArray⟩) ∧ Below w.heap.size w w' := by
 obtain ⟨w1, hmk, hr1, hb1⟩ := make8 k k rfl (by omega) w
 have R1 := Lib.hid hr1
 have B1 := Lib.hid hb1
 clear hr1 hb1
 obtain ⟨L, hL⟩ : ∃ L, Sha.big n k = L := ⟨_, rfl⟩
 have hLl : L.length = k := by rw [← hL]; exact Sha.big_length _ _
 have hat : ∀ (j : Nat) (h : j < L.length), (L[j]'h) = UInt8.ofNat (n / 256 ^ (k - 1 - j)) := fun j h => by
  have h1 := Sha.big_take n k j (by omega)
  rw [hL, List.take_succ_eq_append_getElem h] at h1
  simpa using List.append_cancel_left h1
 have HAT := Lib.hid hat
 rw [hL]
 clear hL hat
 go_enter Tryz.func141, Tryz.ntmps141
 go_wp2_with fail
 clear hmk
 go_loopw [11] (fun i wr => ∃ j : Nat, j ≤ k ∧ i = .int .i64 j ∧ RowB wr w.heap.size (L.take j ++ List.replicate (k - j) 0) ∧ Below w.heap.size w wr) (fun i _ => k - (intOf i).toNat)
 case atStart => exact ⟨0, by omega, rfl, by simpa using R1.out, B1.out⟩
 case round =>
  obtain ⟨j, hj, rfl, hr, hb⟩ := hrel
  have HR := Lib.hid hr
  have HB := Lib.hid hb
  clear hr hb
  by_cases hjk : j < k
  ·have hjl : j < L.length := by omega
   have hsh : (8 * ((k : Int) - 1 - j)).toNat = 8 * (k - 1 - j) := by omega
   have HV := Lib.hid (u8_big n (k - 1 - j))
   have hc := HR.out.2 j 0 (by rw [List.getElem?_append_right (by simp; omega), List.length_take, Nat.min_eq_left (by omega), Nat.sub_self, show k - j = (k - j - 1) + 1 by omega]; rfl)
   have hc1 := hc.1
   have hc2 := hc.2
   clear hc
   go_wp2
   go_roundw
   case rel =>
    refine ⟨j + 1, by omega, by go_num, ?_, HB.out.setCell (p := ⟨w.heap.size, j, none⟩) (Nat.le_refl _) _⟩
    have h := HR.out.set j (L[j]'hjl)
    rw [bytes_set_front L k j hjl hjk, HAT.out j hjl, ← HV.out] at h
    exact h
   case measure => simp [intOf]; omega
  ·obtain rfl : j = k := by omega
   have hr2 : RowB wr w.heap.size L := by
    have h := HR.out
    rw [Nat.sub_self, List.replicate_zero, List.append_nil, List.take_of_length_le (by omega)] at h
    exact h
   have HO := Lib.hid (ownF_row hr2 (Nat.le_refl _) (by unfold maxLen; omega))
   rw [hLl] at HO
   clear hr2
   go_wp2_with (first | (refine wpList_convert_string _ rfl 175 9 5 (.tmp 26) rfl Tryz.underlying175 Tryz.underlying5 Tryz.underlying9 rfl (by rw [hLl]; exact HO.out) ?_))
   go_ret
   exact ⟨rfl, HB.out⟩
end Go.Proofs.YtpjpknndfhablaaGreat

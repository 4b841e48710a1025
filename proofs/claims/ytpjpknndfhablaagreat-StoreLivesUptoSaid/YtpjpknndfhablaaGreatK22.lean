/- A deed on a store that lives, and what may be there behind it. Plain laws. One store of the program on a disk that the call itself made, with one transaction or none: the contracts once more. Walks of the document's Frame, Whole, Counts. The document's log: where it lies; over, Sync, Room, Copy. The document's log: Append, Copy. -/
import Derived.Test.YtpjpknndfhablaaGreatK5
import Derived.Test.YtpjpknndfhablaaGreatK7
import Derived.Test.YtpjpknndfhablaaGreatK13
import Derived.Test.YtpjpknndfhablaaGreatK18
import Derived.Test.YtpjpknndfhablaaGreatK19
import Derived.Test.YtpjpknndfhablaaGreatK21
namespace Go.Proofs.YtpjpknndfhablaaGreat
theorem scan_whole2 {l : Sto.Pairs} {n : Nat} (h : l.length ≤ n) : Sto.scan l [] n = l := by
  unfold Sto.scan
  have h1 : (l.filter fun p => !Sto.lt p.1 []) = l := by
    rw [List.filter_eq_self]
    intro p _
    cases p.1 <;> rfl
  rw [h1, List.take_of_length_le h]
theorem scan_fits {l : Sto.Pairs} (h : Sto.fits l = true) : Sto.scan l [] 99999 = l := scan_whole2 (by have := few_fits' h; omega)
namespace SS
theorem check_ok {s : SS} {d : DS} (hf : Sto.fits s.ps = true) (hg : s.l.g < 4611686018427387904) : (s.check d).2.2 ≠ 101 ∧ (s.check d).2.2 ≠ 102 := by
  have hi := Sto.image_length s.ps hf
  unfold SS.check
  split
  · exact ⟨(fun e => by cases e), (fun e => by cases e)⟩
  · show (Wal.checkpoint s.l d (Sto.image s.ps)).2.2 ≠ 101 ∧ (Wal.checkpoint s.l d (Sto.image s.ps)).2.2 ≠ 102
    unfold Wal.checkpoint
    split
    · exact ⟨(fun e => by cases e), (fun e => by cases e)⟩
    · rw [if_neg (by omega), if_neg (by omega)]
      split
      · exact ⟨(fun e => by cases e), (fun e => by cases e)⟩
      · split
        · exact ⟨(fun e => by cases e), (fun e => by cases e)⟩
        · exact ⟨(fun e => by cases e), (fun e => by cases e)⟩
theorem commit_fits {s : SS} {t : TS} {d : DS} (hl : s.dead = false) (hw : t.was = s.ps) (h1 : Sto.Rise s.ps) (h2 : Sto.Rise t.now) (h : (s.commit t d).2.2 = 2) : Sto.fits t.now = true := by
  unfold SS.commit at h
  rw [if_neg (show ¬ s.dead = true by rw [hl]; exact Bool.false_ne_true)] at h
  split at h
  · cases h
  · split at h
    · cases h
    · split at h
      · cases h
      · split at h
        · cases h
        · cases hd : Sto.does s.ps (Sto.changes t.was t.now) with
          | none => rw [hd] at h; cases h
          | some m =>
            rw [hw, Sto.does_changes h1 h2] at hd
            split at hd
            · assumption
            · cases hd
theorem Held.dd {s : SS} {d : DS} {may : List Sto.Pairs} (h : Held s d may) : d.dead = false := by
  obtain ⟨_, _, _, _, h1, _⟩ := h.log
  exact h1.dd
theorem Held.few {s : SS} {d : DS} {may : List Sto.Pairs} (h : Held s d may) (hok : d.Ok) : s.l.n ≤ 131072 := by
  obtain ⟨snap, rs, m, p0, h1, _⟩ := h.log
  have h2 := hok.base_len' s.l.f
  rw [DS.size, (Wal.of_u h1).1, List.length_append] at h2
  have := Wal.frames_length_le rs
  have := h1.n
  omega
/-- What a deed leaves, and where it may have died. -/
structure Did (s : SS) (d : DS) (may : List Sto.Pairs) (th : Int) (R : Sto.Pairs × Int × SS × DS) : Prop where
  e : R.2.1 = 0
  ps : R.1 = R.2.2.1.ps
  more : Held R.2.2.1 R.2.2.2 (may ++ [R.1])
  safe : th = 1 ∨ th = 2 → Held R.2.2.1 R.2.2.2 [R.1]
  armed : d.armed = 0 → R.2.2.2.armed = 0
  g : R.2.2.1.l.g ≤ s.l.g + 2
  turn : R.2.2.1.turn ≤ s.turn + 1
structure Died (s : SS) (d : DS) (may : List Sto.Pairs) (R : Sto.Pairs × Int × SS × DS) : Prop where
  e : R.2.1 = 2
  sd : R.2.2.1.dead = true
  dd : R.2.2.2.dead = true
  armed : d.armed ≠ 0
  sits : SitsP R.2.2.2 (may ++ [R.1]) (s.l.g + 2)
theorem sync_g {s : SS} {d : DS} : (s.sync d).1.l.g ≤ s.l.g := by
  unfold SS.sync
  split
  · exact Nat.le_refl _
  · show (Wal.sync s.l d).1.g ≤ _
    unfold Wal.sync
    split
    · exact Nat.le_refl _
    · split <;> exact Nat.le_refl _
theorem commit_turned (s : SS) (t : TS) (d : DS) : (s.commit t d).1.turn ≤ s.turn + 1 := by
  rcases commit_cases s t d with ⟨_, _, a⟩ | ⟨_, _, _, _, _, a⟩ | ⟨_, _, _, _, _, a, _⟩
  · omega
  · rw [a]; exact Nat.le_succ _
  · omega
theorem sync_turn (s : SS) (d : DS) : (s.sync d).1.turn = s.turn := by
  unfold SS.sync
  split <;> rfl
theorem deed2_held {s0 s : SS} {d0 d : DS} {may : List Sto.Pairs} (p : Sto.Pairs) (hp : p = s.ps) (h : Held s d (may ++ [p])) (har : d0.armed = 0 → d.armed = 0) (hg : s.l.g ≤ s0.l.g + 1) (ht : s.turn ≤ s0.turn + 1) (hG : s0.l.g ≤ 4611686018427387000) (th : Int) :
    Did s0 d0 may th (SS.deed2 p 0 s d th) ∨ Died s0 d0 may (SS.deed2 p 0 s d th) := by
  subst hp
  unfold SS.deed2
  by_cases h1 : th = 1
  · rw [if_pos ⟨rfl, h1⟩]
    rcases h.sync with ⟨a, b, c, k⟩ | ⟨a, b, c, k, f⟩
    · exact .inl ⟨a, b.symm, c.more (fun q hq => List.mem_append_right _ hq), fun _ => c, fun z => k (har z), by have := sync_g (s := s) (d := d); show (s.sync d).1.l.g ≤ _; omega, by show (s.sync d).1.turn ≤ _; rw [sync_turn]; exact ht⟩
    · exact .inr ⟨a, b, c, fun z => k (har z), f.more (fun _ hq => hq) (by omega)⟩
  · rw [if_neg (fun e => h1 e.2)]
    by_cases h2 : th = 2
    · rw [if_pos ⟨rfl, h2⟩]
      obtain ⟨n1, n2⟩ := check_ok (s := s) (d := d) h.fits (by omega)
      rcases h.check with ⟨a, b, c, k⟩ | ⟨a, _⟩ | ⟨a, b, c, k, f⟩
      · exact .inl ⟨a, b.symm, c.more (fun q hq => List.mem_append_right _ hq), fun _ => c, fun z => k (har z), by have := check_g (s := s) (d := d); show (s.check d).1.l.g ≤ _; omega, by show (s.check d).1.turn ≤ _; rw [(check_ps s d).2]; exact ht⟩
      · omega
      · refine .inr ⟨a, b, c, fun z => k (har z), f.more (fun q hq => ?_) (by omega)⟩
        rcases List.mem_cons.1 hq with rfl | hq
        · simp
        · exact hq
    · rw [if_neg (fun e => h2 e.2)]
      exact .inl ⟨rfl, rfl, h, fun e => by omega, har, by show s.l.g ≤ _; omega, ht⟩
theorem turns_good (l : List Sto.Ch) : ∀ (t : TS), Sto.Good t.now → Sto.Good (t.turns l).now := by
  induction l with
  | nil => exact fun t h => h
  | cons c r ih =>
    intro t h
    refine ih (t.turn1 c) ?_
    unfold TS.turn1 TS.put TS.del
    split
    · split
      · exact h
      · split
        · exact h
        · split
          · exact h
          · rename_i h1 h2
            exact h.put (by simpa using h1) (by simpa using h2)
    · split
      · exact h
      · split
        · exact h
        · exact h.del c.key
/-- A deed. -/
theorem Held.deed {s : SS} {d : DS} {may : List Sto.Pairs} (h : Held s d may) (hin : s.ps ∈ may) (hG : s.l.g ≤ 4611686018427387000) (l : List Sto.Ch) (th : Int) : Did s d may th (s.deed d l th) ∨ Died s d may (s.deed d l th) := by
  obtain ⟨_, hwas, _, _⟩ := TS.turns_len l s.begin_
  have hwas' : (s.begin_.turns l).was = s.ps := hwas
  have hgood := turns_good l s.begin_ h.good
  have hg := commit_g (s := s) (t := s.begin_.turns l) (d := d)
  have hsub : ∀ (p : Sto.Pairs), ∀ q ∈ p :: s.ps :: may, q ∈ may ++ [p] := fun p q hq => by
    simp only [List.mem_cons] at hq
    rcases hq with rfl | rfl | hq
    · simp
    · exact List.mem_append_left _ hin
    · exact List.mem_append_left _ hq
  unfold SS.deed
  rcases h.commit hwas' hgood with ⟨a, b, c, k⟩ | ⟨a, a', b, c, k⟩ | ⟨a, b, c, k, f⟩
  · have hf : Sto.fits (s.begin_.turns l).now = true := by rw [← b]; exact c.fits
    rw [if_neg (fun e => e.1 a), if_neg (by rw [a]; exact fun e => by cases e), scan_fits hf]
    exact deed2_held _ b.symm (c.more (hsub _)) k hg (commit_turned s _ d) hG th
  · rw [if_pos ⟨a, a'⟩, if_neg a', scan_fits c.fits]
    exact deed2_held _ rfl (c.more (fun q hq => by rw [b]; exact hsub s.ps q (List.mem_cons_of_mem _ hq))) k hg (commit_turned s _ d) hG th
  · have hf := commit_fits h.live hwas' h.good.rise hgood.rise a
    rw [if_neg (fun e => e.2 a), if_pos a, scan_fits hf]
    have e2 : ∀ (S : SS) (D : DS), SS.deed2 (s.begin_.turns l).now 2 S D th = ((s.begin_.turns l).now, 2, S, D) := fun S D => by
      unfold SS.deed2
      rw [if_neg (fun e => by cases e.1), if_neg (fun e => by cases e.1)]
    rw [e2]
    exact .inr ⟨rfl, b, c, k, f.more (hsub _) (Nat.le_succ _)⟩
theorem Held.arm {s : SS} {d : DS} {may : List Sto.Pairs} (h : Held s d may) (n k : Nat) : Held s { d with armed := n, keep := k } may := by
  obtain ⟨snap, rs, m, p0, h1, h2, h3, h4⟩ := h.log
  exact ⟨h.live, h.good, h.fits, snap, rs, m, p0, ⟨h1.ld, h1.dd, h1.g1, h1.g2, h1.n, h1.sl, h1.short, h1.le, by have := h1.file; cases hf : s.l.f <;> rw [hf] at this <;> exact this, h1.u, by have := h1.other; cases hf : s.l.f <;> rw [hf] at this <;> exact this⟩, h2, h3, h4⟩
theorem SitsP.revive {d : DS} {may : List Sto.Pairs} {G : Nat} (h : SitsP d may G) : SitsP d.revive may G := by
  obtain ⟨f, g, snap, rs, p0, q, k, a, b⟩ := h
  exact ⟨f, g, snap, rs, p0, q, k, a.revive, b⟩
theorem held_first : Held FixS.s0 Wal.e0 [[]] := by
  refine ⟨rfl, Sto.Good.nil, rfl, [], [], 0, [], Wal.live0.1, rfl, rfl, fun j _ h => ?_⟩
  have hj : j = 0 := Nat.le_zero.1 h
  subst hj
  exact ⟨[], rfl, List.mem_cons_self ..⟩
end SS
theorem arm_fine {d : DS} (hd : d.dead = false) {n k : Int} (hn : 0 ≤ n) (hk : 0 ≤ k) : d.arm n k = ({ d with armed := n.toNat, keep := k.toNat }, 0) := by
  unfold DS.arm
  rw [if_neg (by simp [hd]), if_neg (by omega)]
theorem crash_fine {d : DS} (hd : d.dead = false) {k : Int} (hk : 0 ≤ k) : d.crash k = (d.die k.toNat, 0) := by
  unfold DS.crash
  rw [if_neg (by simp [hd]), if_neg (by omega)]
end Go.Proofs.YtpjpknndfhablaaGreat
namespace Go.Proofs.YtpjpknndfhablaaGreat
open Go.RowKit
/-- In w a store in block x over the disk in block c, both made since w0. -/
def Sone (w0 w : World) (x c : Nat) (s : SS) (d : DS) (m : Nat) : Prop :=
  ∃ lg mb rb, StoAt w x lg c mb s ∧ DiskAt w c d m rb ∧ Below w0.heap.size w0 w ∧ w0.heap.size ≤ x ∧ w0.heap.size ≤ lg ∧ w0.heap.size ≤ mb ∧ w0.heap.size ≤ c ∧ (∀ k, rb = some k → w0.heap.size ≤ k)
/-- .. and a transaction of it in block y. -/
def Stx (w0 w : World) (x c : Nat) (s : SS) (d : DS) (m : Nat) (y : Nat) (t : TS) : Prop :=
  ∃ lg mb rb pm wm, StoAt w x lg c mb s ∧ DiskAt w c d m rb ∧ Below w0.heap.size w0 w ∧ w0.heap.size ≤ x ∧ w0.heap.size ≤ lg ∧ w0.heap.size ≤ mb ∧ w0.heap.size ≤ c ∧ (∀ k, rb = some k → w0.heap.size ≤ k) ∧
    TxAt w x y pm wm t ∧ pm ≠ some mb ∧ w0.heap.size ≤ y ∧ w0.heap.size ≤ wm ∧ ∀ b, pm = some b → w0.heap.size ≤ b
section
variable {w0 w : World} {x c : Nat} {s : SS} {d : DS} {m : Nat}
theorem Sone.below {w' : World} (h : Sone w0 w x c s d m) (hb : Below w.heap.size w w') : Sone w0 w' x c s d m := by
  obtain ⟨lg, mb, rb, h1, h2, h3, h4⟩ := h
  exact ⟨lg, mb, rb, h1.below hb, h2.below hb, h3.trans (hb.mono h3.size), h4⟩
theorem Stx.below {y : Nat} {t : TS} {w' : World} (h : Stx w0 w x c s d m y t) (hb : Below w.heap.size w w') : Stx w0 w' x c s d m y t := by
  obtain ⟨lg, mb, rb, pm, wm, h1, h2, h3, h4, h5, h6, h7, h8, h9, h10⟩ := h
  exact ⟨lg, mb, rb, pm, wm, h1.below hb, h2.below hb, h3.trans (hb.mono h3.size), h4, h5, h6, h7, h8, h9.below hb, h10⟩
theorem Stx.one {y : Nat} {t : TS} (h : Stx w0 w x c s d m y t) : Sone w0 w x c s d m := by
  obtain ⟨lg, mb, rb, pm, wm, h1, h2, h3, h4, h5, h6, h7, h8, _⟩ := h
  exact ⟨lg, mb, rb, h1, h2, h3, h4, h5, h6, h7, h8⟩
theorem Sone.old (h : Sone w0 w x c s d m) : Below w0.heap.size w0 w := by obtain ⟨lg, mb, rb, _, _, h3, _⟩ := h; exact h3
theorem Sone.disk (h : Sone w0 w x c s d m) : DiskNew w0 w c d m := by obtain ⟨lg, mb, rb, _, h2, h3, _, _, _, h7, h8⟩ := h; exact ⟨h7, h3, rb, h2, h8⟩
theorem Sone.ok (h : Sone w0 w x c s d m) : d.Ok ∧ Sto.Good s.ps ∧ Sto.fits s.ps = true := by obtain ⟨lg, mb, rb, h1, h2, _⟩ := h; exact ⟨h2.1, h1.good, h1.fits⟩
/-- Behind a piece of work on the store. -/
theorem Sone.worked {lg mb : Nat} {rb : Option Nat} {s' : SS} {d' : DS} {m' : Nat} {w' : World} (h3 : Below w0.heap.size w0 w) (h4 : w0.heap.size ≤ x) (h5 : w0.heap.size ≤ lg) (h6 : w0.heap.size ≤ mb) (h7 : w0.heap.size ≤ c) (h8 : ∀ k, rb = some k → w0.heap.size ≤ k)
    (hw : SWorked x lg c mb s' d d' m' rb w w') : Sone w0 w' x c s' d' m' ∧ (d'.dead = true → d.dead = false → Sone w0 w' x c s' d' 0) := by
  obtain ⟨⟨mb', a1, a2⟩, ⟨rb', b1, b2, b3⟩, c1⟩ := hw
  have hold : Below w0.heap.size w0 w' := h3.trans (c1.below h3.size fun k hk ho => by
    rcases ho with ((rfl | ho) | rfl) | rfl
    · omega
    · have := h8 k ho; omega
    · omega
    · omega)
  have hmb : w0.heap.size ≤ mb' := by rcases a2 with rfl | a2; exact h6; exact Nat.le_trans h3.size a2
  have hr' : ∀ k, rb' = some k → w0.heap.size ≤ k := fun k hk => (b2 k hk).elim (h8 k) (Nat.le_trans h3.size)
  refine ⟨⟨lg, mb', rb', a1, b1, hold, h4, h5, hmb, h7, hr'⟩, fun e1 e2 => ?_⟩
  obtain rfl := b3 e1 e2
  exact ⟨lg, mb', none, a1, b1.fresh, hold, h4, h5, hmb, h7, hr'⟩
theorem sync_sone (h : Sone w0 w x c s d m) : Calls Tryz.prog 41 #[.pointer (some ⟨x, 0, none⟩)] w fun e w' => e = .returned (.int .i64 (s.sync d).2.2) ∧ Sone w0 w' x c (s.sync d).1 (s.sync d).2.1 m ∧ ((s.sync d).2.1.dead = true → d.dead = false → Sone w0 w' x c (s.sync d).1 (s.sync d).2.1 0) := by
  obtain ⟨lg, mb, rb, h1, h2, h3, h4, h5, h6, h7, h8⟩ := h
  exact (sync11_any x lg c mb w s d m rb h1 h2).mono fun e w' ⟨he, hw⟩ => ⟨he, Sone.worked h3 h4 h5 h6 h7 h8 hw⟩
theorem check_sone (h : Sone w0 w x c s d m) (hm : m < 5000000000000) (hlg : s.l.g ≤ 4611686018427387904) : Calls Tryz.prog 60 #[.pointer (some ⟨x, 0, none⟩)] w fun e w' => e = .returned (.int .i64 (s.check d).2.2) ∧ Sone w0 w' x c (s.check d).1 (s.check d).2.1 (m + 1) ∧ ((s.check d).2.1.dead = true → d.dead = false → Sone w0 w' x c (s.check d).1 (s.check d).2.1 0) := by
  obtain ⟨lg, mb, rb, h1, h2, h3, h4, h5, h6, h7, h8⟩ := h
  exact (check11_any x lg c mb w s d m rb h1 h2 hm hlg).mono fun e w' ⟨he, hw⟩ => ⟨he, Sone.worked h3 h4 h5 h6 h7 h8 hw⟩
theorem keys_sone (h : Sone w0 w x c s d m) : Calls Tryz.prog 42 #[.pointer (some ⟨x, 0, none⟩)] w fun e w' => e = .returned (.int .i64 s.ps.length) ∧ w' = w := by
  obtain ⟨lg, mb, rb, h1, _⟩ := h; exact keys11_any h1
theorem bytes_sone (h : Sone w0 w x c s d m) : Calls Tryz.prog 43 #[.pointer (some ⟨x, 0, none⟩)] w fun e w' => e = .returned (.int .i64 (Sto.size s.ps)) ∧ w' = w := by
  obtain ⟨lg, mb, rb, h1, _⟩ := h; exact bytes11_any h1
theorem dead_sone (h : Sone w0 w x c s d m) : Calls Tryz.prog 29 #[.pointer (some ⟨x, 0, none⟩)] w fun e w' => e = .returned (.bool s.dead) ∧ w' = w := by
  obtain ⟨lg, mb, rb, h1, _⟩ := h; exact dead11_any h1
theorem get_sone (h : Sone w0 w x c s d m) (k : Sto.S) (hk : k.length ≤ maxLen) : Calls Tryz.prog 40 #[.pointer (some ⟨x, 0, none⟩), .string ⟨k.toArray⟩] w fun e w' => e = .returned (.tuple #[.string ⟨((Sto.get s.ps k).getD []).toArray⟩, .bool (Sto.here s.ps k)]) ∧ w' = w := by
  obtain ⟨lg, mb, rb, h1, _⟩ := h; exact get11_any h1 k hk
theorem scan_sone (h : Sone w0 w x c s d m) (k : Sto.S) (most : Int) (hm1 : most ≤ 9223372036854775807) (hm2 : -9223372036854775808 ≤ most) : Calls Tryz.prog 20 #[.pointer (some ⟨x, 0, none⟩), .string ⟨k.toArray⟩, .int .i64 most] w fun e w' => ∃ v, e = .returned v ∧ PairsAt w' v (Sto.scan s.ps k most.toNat) ∧ (∀ g, v.ownBlock = some g → w.heap.size ≤ g) ∧ Below w.heap.size w w' := by
  obtain ⟨lg, mb, rb, h1, _⟩ := h; exact scan11_any h1 k most hm1 hm2
theorem begin_sone (h : Sone w0 w x c s d m) : Calls Tryz.prog 23 #[.pointer (some ⟨x, 0, none⟩)] w fun e w' => ∃ y, e = .returned (.pointer (some ⟨y, 0, none⟩)) ∧ Stx w0 w' x c s d m y s.begin_ := by
  obtain ⟨lg, mb, rb, h1, h2, h3, h4, h5, h6, h7, h8⟩ := h
  refine (begin11_any x lg c mb w s h1).mono ?_
  rintro e w' ⟨y, pm, wm, rfl, ht, hy, hp, hw, hb⟩
  have hml := h1.map.lt
  exact ⟨y, rfl, lg, mb, rb, some pm, wm, h1.below hb, h2.below hb, h3.trans (hb.mono h3.size), h4, h5, h6, h7, h8, ht, fun e => (by have := Option.some.inj e; omega), Nat.le_trans h3.size hy, Nat.le_trans h3.size hw, fun b e => by cases e; exact Nat.le_trans h3.size hp⟩
/-- The store stays where only the transaction's own map turns. -/
theorem StoAt.aside {lg mb : Nat} {rb : Option Nat} {w' : World} {y wm : Nat} {pm : Option Nat} {t : TS} (h1 : StoAt w x lg c mb s) (h2 : DiskAt w c d m rb) (ht : TxAt w x y pm wm t) (hpm : pm ≠ some mb) (hT : Touch (fun b => pm = some b) w w') : StoAt w' x lg c mb s ∧ DiskAt w' c d m rb := by
  cases pm with
  | none => exact ⟨h1.touch hT (by simp) (by simp) (by simp), h2.touch hT (fun _ _ e => by cases e)⟩
  | some pb =>
    have hf := h1.farMap h2 (l := t.now) ht.now
    exact ⟨h1.touch hT (fun e => hf (.inr (Option.some.inj e))) (fun e => hf (.inl (.inr (Option.some.inj e)))) (fun e => hpm e), h2.touch hT (fun k hk e => hf (.inl (.inl ((Option.some.inj e) ▸ hk))))⟩
theorem Stx.turned {y : Nat} {t t' : TS} {w' : World} {lg mb : Nat} {rb pm : Option Nat} {wm : Nat} (h1 : StoAt w x lg c mb s) (h2 : DiskAt w c d m rb) (h3 : Below w0.heap.size w0 w) (h4 : w0.heap.size ≤ x) (h5 : w0.heap.size ≤ lg) (h6 : w0.heap.size ≤ mb) (h7 : w0.heap.size ≤ c) (h8 : ∀ k, rb = some k → w0.heap.size ≤ k)
    (ht : TxAt w x y pm wm t) (hpm : pm ≠ some mb) (hy : w0.heap.size ≤ y) (hw : w0.heap.size ≤ wm) (hp : ∀ b, pm = some b → w0.heap.size ≤ b) (ht' : TxAt w' x y pm wm t') (hT : Touch (fun b => pm = some b) w w') : Stx w0 w' x c s d m y t' := by
  obtain ⟨a1, a2⟩ := h1.aside h2 ht hpm hT
  exact ⟨lg, mb, rb, pm, wm, a1, a2, h3.trans (hT.below h3.size fun k hk e => by have := hp k e; omega), h4, h5, h6, h7, h8, ht', hpm, hy, hw, hp⟩
end
section
variable {w0 w : World} {x c : Nat} {s : SS} {d : DS} {m : Nat} {y : Nat} {t : TS} (h : Stx w0 w x c s d m y t)
include h
theorem put_stx (k v : Sto.S) (hk : k.length ≤ maxLen) (hv : v.length ≤ maxLen) (hl : t.now.length < maxLen) : Calls Tryz.prog 24 #[.pointer (some ⟨y, 0, none⟩), .string ⟨k.toArray⟩, .string ⟨v.toArray⟩] w fun e w' => e = .returned (.int .i64 (t.put k v).2) ∧ Stx w0 w' x c s d m y (t.put k v).1 := by
  obtain ⟨lg, mb, rb, pm, wm, h1, h2, h3, h4, h5, h6, h7, h8, h9, h10, h11, h12, h13⟩ := h
  exact (put11_any h9 k v hk hv hl).mono fun e w' ⟨he, ht, hT⟩ => ⟨he, Stx.turned h1 h2 h3 h4 h5 h6 h7 h8 h9 h10 h11 h12 h13 ht hT⟩
theorem del_stx (k : Sto.S) (hk : k.length ≤ maxLen) : Calls Tryz.prog 25 #[.pointer (some ⟨y, 0, none⟩), .string ⟨k.toArray⟩] w fun e w' => e = .returned (.int .i64 (t.del k).2) ∧ Stx w0 w' x c s d m y (t.del k).1 := by
  obtain ⟨lg, mb, rb, pm, wm, h1, h2, h3, h4, h5, h6, h7, h8, h9, h10, h11, h12, h13⟩ := h
  exact (delete11_any h9 k hk).mono fun e w' ⟨he, ht, hT⟩ => ⟨he, Stx.turned h1 h2 h3 h4 h5 h6 h7 h8 h9 h10 h11 h12 h13 ht hT⟩
theorem get_stx (k : Sto.S) (hk : k.length ≤ maxLen) : Calls Tryz.prog 39 #[.pointer (some ⟨y, 0, none⟩), .string ⟨k.toArray⟩] w fun e w' => e = .returned (.tuple #[.string ⟨((Sto.get t.now k).getD []).toArray⟩, .bool (Sto.here t.now k)]) ∧ w' = w := by
  obtain ⟨lg, mb, rb, pm, wm, h1, h2, h3, h4, h5, h6, h7, h8, h9, _⟩ := h
  exact txget11_any h9 k hk
theorem txscan_stx (k : Sto.S) (most : Int) (hlen : t.now.length ≤ 4398046511104) (hm1 : most ≤ 9223372036854775807) (hm2 : -9223372036854775808 ≤ most) : Calls Tryz.prog 26 #[.pointer (some ⟨y, 0, none⟩), .string ⟨k.toArray⟩, .int .i64 most] w fun e w' => ∃ v, e = .returned v ∧ PairsAt w' v (Sto.scan t.now k most.toNat) ∧ (∀ g, v.ownBlock = some g → w.heap.size ≤ g) ∧ Below w.heap.size w w' := by
  obtain ⟨lg, mb, rb, pm, wm, h1, h2, h3, h4, h5, h6, h7, h8, h9, _⟩ := h
  exact txscan11_any h9 k most hlen hm1 hm2
theorem commit_stx (hm : m < 4999999999999) (hlg : s.l.g ≤ 4611686018427387904) (hln : s.l.n ≤ 4611686018427387904) (hl1 : t.now.length ≤ 4194304) (hl2 : t.was.length ≤ 4096) (hturn : s.turn ≤ 4611686018427387904) :
    Calls Tryz.prog 27 #[.pointer (some ⟨y, 0, none⟩)] w fun e w' => e = .returned (.int .i64 (s.commit t d).2.2) ∧ Stx w0 w' x c (s.commit t d).1 (s.commit t d).2.1 (m + 2) y (if t.over then t else t.ends) ∧ ((s.commit t d).2.1.dead = true → d.dead = false → Sone w0 w' x c (s.commit t d).1 (s.commit t d).2.1 0) := by
  obtain ⟨lg, mb, rb, pm, wm, h1, h2, h3, h4, h5, h6, h7, h8, h9, h10, h11, h12, h13⟩ := h
  refine (commit11_any x lg c mb y wm pm w s t d m rb h1 h2 h9 hm hlg hln hl1 hl2 hturn).mono ?_
  rintro e w' ⟨rfl, ⟨mb', a1, a2⟩, ⟨rb', b1, b2, b3⟩, c1, t1⟩
  have hold : Below w0.heap.size w0 w' := h3.trans (c1.below h3.size fun k hk ho => by
    rcases ho with ((rfl | ho) | rfl) | (rfl | rfl)
    · omega
    · have := h8 k ho; omega
    · omega
    · omega
    · omega)
  have hmb : w0.heap.size ≤ mb' := by rcases a2 with rfl | a2; exact h6; exact Nat.le_trans h3.size a2
  have hr' : ∀ k, rb' = some k → w0.heap.size ≤ k := fun k hk => (b2 k hk).elim (h8 k) (Nat.le_trans h3.size)
  have hp' : ∀ b, (if t.over then pm else none) = some b → pm = some b := fun b e => by split at e; exact e; cases e
  refine ⟨rfl, ⟨lg, mb', rb', _, wm, a1, b1, hold, h4, h5, hmb, h7, hr', t1, fun e => ?_, h11, h12, fun b e => h13 b (hp' b e)⟩, fun e1 e2 => ?_⟩
  · have e1 := hp' _ e
    rcases a2 with rfl | a2
    · exact h10 e1
    · have := (h9.now.lt) mb' e1
      omega
  · obtain rfl := b3 e1 e2
    exact ⟨lg, mb', none, a1, b1.fresh, hold, h4, h5, hmb, h7, hr'⟩
end
/-- How Open ends on a disk that the call itself made. -/
theorem open_sone {w0 w : World} {c : Nat} {d : DS} {m : Nat} (h : DiskNew w0 w c d m) :
    Calls Tryz.prog 14 #[.pointer (some ⟨c, 0, none⟩)] w fun e w' => ∃ v, e = .returned (.tuple #[v, .int .i64 (SS.open_ d).2.2]) ∧ (∀ s, (SS.open_ d).1 = some s → ∃ x, v = .pointer (some ⟨x, 0, none⟩) ∧ Sone w0 w' x c s (SS.open_ d).2.1 m) ∧ ((SS.open_ d).1 = none → v = .pointer none) ∧
      DiskNew w0 w' c (SS.open_ d).2.1 m ∧ KeepsOff diskT w w' := by
  obtain ⟨hc, hb, rb, h, hr⟩ := h
  refine (open11_any c w d m rb h).mono ?_
  rintro e w' ⟨v, rfl, hs, hn, rb', h1, h2, h3, h4⟩
  have hD : DiskNew w0 w' c (SS.open_ d).2.1 m := .turn hc hb hr h1 h2 h3
  refine ⟨v, rfl, fun s e => ?_, hn, hD, .of_touch h.typed h3⟩
  obtain ⟨x, lg, mb, rfl, hst, a1, a2, a3⟩ := hs s e
  obtain ⟨_, hb', _⟩ := hD
  exact ⟨x, rfl, lg, mb, rb', hst, h1, hb', Nat.le_trans hb.size a1, Nat.le_trans hb.size a2, Nat.le_trans hb.size a3, hc, fun k hk => (h2 k hk).elim (hr k) (Nat.le_trans hb.size)⟩
end Go.Proofs.YtpjpknndfhablaaGreat
namespace Go.Proofs.YtpjpknndfhablaaGreat
open Go.RowKit
set_option maxHeartbeats 2000000 in
theorem rframe_any (s : List UInt8) (w : World) (hs : s.length ≤ 1048576) :
    Calls Tryz.prog 92 #[.string ⟨s.toArray⟩] w fun e w' => e = .returned (.string ⟨(Wal.frame s).toArray⟩) ∧ Below w.heap.size w w' := by
  obtain ⟨A, hA⟩ : ∃ A, Sha.big s.length 4 = A := ⟨_, rfl⟩
  obtain ⟨c, hc⟩ : ∃ c, Wal.crc s = c := ⟨_, rfl⟩
  have hcl := Wal.crc_lt s
  rw [hc] at hcl
  obtain ⟨B, hB⟩ : ∃ B, Sha.big c 4 = B := ⟨_, rfl⟩
  have hAl : A.length = 4 := by rw [← hA]; exact Sha.big_length _ _
  have hBl : B.length = 4 := by rw [← hB]; exact Sha.big_length _ _
  have HF : Hid (Wal.frame s = A ++ B ++ s) := Lib.hid (by unfold Wal.frame; rw [hA, hc, hB])
  have HA := Lib.hid hA
  have HB := Lib.hid hB
  have HC := Lib.hid hc
  clear hA hB hc
  have hap1 := bytes_append A B
  have hap2 := bytes_append (A ++ B) s
  go_enter Tryz.func92, Tryz.ntmps92
  go_wp2_with fail
  refine (rbytes_any s.length 4 w (by decide) (by omega)).mono ?_
  rw [HA.out]
  rintro e w1 ⟨rfl, b1⟩
  have B1 := Lib.hid b1
  clear b1
  go_wp2_with fail
  refine (rwsum_any s w1 (by omega)).mono ?_
  rw [HC.out]
  rintro e w2 ⟨rfl, rfl⟩
  go_wp2_with fail
  refine (rbytes_any c 4 w1 (by decide) (by omega)).mono ?_
  rw [HB.out]
  rintro e w2 ⟨rfl, b2⟩
  have B2 := Lib.hid (bthen B1.out b2)
  clear b2
  go_wp2_with fail
  go_ret
  exact ⟨by rw [HF.out, List.append_assoc]; rfl, B2.out⟩
set_option maxHeartbeats 4000000 in
set_option maxRecDepth 100000 in
theorem rwhole_any (l : List UInt8) (p most : Nat) (w : World) (hl : l.length ≤ 2097152) (hp : p ≤ 4194304) (hm : most ≤ 1048576) :
    Calls Tryz.prog 103 #[.string ⟨l.toArray⟩, .int .i64 p, .int .i64 most] w fun e w' => e = .returned (.tuple #[.string ⟨(Wal.whole l p most).1.toArray⟩, .bool (Wal.whole l p most).2]) ∧ Below w.heap.size w w' := by
  by_cases h1 : l.length < p + 8
  · have HW := Lib.hid (Wal.whole_short (most := most) h1)
    go_enter Tryz.func103, Tryz.ntmps103
    go_wp2
    go_ret2
    exact ⟨by rw [HW.out]; rfl, Below.refl _ _⟩
  · obtain ⟨l4, hl4⟩ : ∃ l4, (l.drop p).take 4 = l4 := ⟨_, rfl⟩
    have hl4L : l4.length = 4 := by rw [← hl4]; simp; omega
    obtain ⟨n, hn⟩ : ∃ n, Sha.val l4 = n := ⟨_, rfl⟩
    have hnl : n < 4294967296 := by
      have h := Sha.val_lt l4
      rw [hl4L, hn] at h
      exact h
    have hext1 := ext_take l p 4
    rw [hl4] at hext1
    have HN := Lib.hid hn
    have HL4 := Lib.hid hl4L
    by_cases h2 : most < n
    · have HW : Hid (Wal.whole l p most = ([], false)) := Lib.hid (by unfold Wal.whole; rw [if_neg h1, hl4, hn, if_pos (.inl h2)])
      clear hn hl4 hl4L
      go_enter Tryz.func103, Tryz.ntmps103
      go_wp2_with fail
      refine (rvalue_any l4 w (by rw [HL4.out]; decide)).mono ?_
      rw [HN.out]
      rintro e w1 ⟨rfl, rfl⟩
      go_wp2
      go_ret2
      exact ⟨by rw [HW.out]; rfl, Below.refl _ _⟩
    by_cases h3 : l.length - p - 8 < n
    · have HW : Hid (Wal.whole l p most = ([], false)) := Lib.hid (by unfold Wal.whole; rw [if_neg h1, hl4, hn, if_pos (.inr h3)])
      clear hn hl4 hl4L
      go_enter Tryz.func103, Tryz.ntmps103
      go_wp2_with fail
      refine (rvalue_any l4 w (by rw [HL4.out]; decide)).mono ?_
      rw [HN.out]
      rintro e w1 ⟨rfl, rfl⟩
      go_wp2
      go_ret2
      exact ⟨by rw [HW.out]; rfl, Below.refl _ _⟩
    · obtain ⟨s, hs⟩ : ∃ s, (l.drop (p + 8)).take n = s := ⟨_, rfl⟩
      obtain ⟨c4, hc4⟩ : ∃ c4, (l.drop (p + 4)).take 4 = c4 := ⟨_, rfl⟩
      have hc4L : c4.length = 4 := by rw [← hc4]; simp; omega
      have hsl : s.length ≤ 2097152 := by rw [← hs]; simp; omega
      obtain ⟨c, hc⟩ : ∃ c, Wal.crc s = c := ⟨_, rfl⟩
      obtain ⟨v, hv⟩ : ∃ v, Sha.val c4 = v := ⟨_, rfl⟩
      have hcl := Wal.crc_lt s
      rw [hc] at hcl
      have hext2 := ext_take l (p + 8) n
      rw [hs] at hext2
      have hext3 := ext_take l (p + 4) 4
      rw [hc4, show p + 4 + 4 = p + 8 by omega] at hext3
      have HW : Hid (Wal.whole l p most = (s, c == v)) := Lib.hid (by unfold Wal.whole; rw [if_neg h1, hl4, hn, if_neg (by omega), hs, hc4, hc, hv])
      have HC := Lib.hid hc
      have HV := Lib.hid hv
      have HC4 := Lib.hid hc4L
      have HEQ : Hid (((v : Int) == (c : Int)) = (c == v)) := Lib.hid (by rw [Bool.eq_iff_iff]; simp; omega)
      clear hn hl4 hl4L hs hc4 hc4L hc hv
      have hmx : Tryz.prog.follows .mixedOrders = true := by kernel_rfl
      go_enter Tryz.func103, Tryz.ntmps103
      go_wp2_with fail
      refine (rvalue_any l4 w (by rw [HL4.out]; decide)).mono ?_
      rw [HN.out]
      rintro e w1 ⟨rfl, rfl⟩
      go_wp2_with fail
      have q1 : ∀ W, Calls Tryz.prog 144 #[.string ⟨s.toArray⟩] W fun e w' => e = .returned (.int .u32 c) ∧ w' = W := fun W => by
        have := rwsum_any s W (by omega)
        rw [HC.out] at this
        exact this.mono fun _ _ h => ⟨h.1, h.2.symm⟩
      have q2 : ∀ W, Calls Tryz.prog 151 #[.string ⟨c4.toArray⟩] W fun e w' => e = .returned (.int .u64 v) ∧ w' = W := fun W => by
        have := rvalue_any c4 W (by rw [HC4.out]; decide)
        rw [HV.out] at this
        exact this.mono fun _ _ h => ⟨h.1, h.2.symm⟩
      have Q1 := Lib.hid q1
      have Q2 := Lib.hid q2
      clear q1 q2
      refine (Q2.out w).mono ?_
      rintro e w1 ⟨rfl, rfl⟩
      go_wp2_with fail
      refine (Q1.out _).mono ?_
      rintro e w1 ⟨rfl, rfl⟩
      go_wp2
      go_ret2
      exact ⟨by rw [HW.out, ← HEQ.out]; rfl, Below.refl _ _⟩
set_option maxHeartbeats 4000000 in
set_option maxRecDepth 100000 in
theorem rcounts_any (l : List UInt8) (w : World) (hl : l.length ≤ 2097152) :
    Calls Tryz.prog 102 #[.string ⟨l.toArray⟩] w fun e w' => e = .returned (.tuple #[.int .u64 (Wal.counts l).1, .string ⟨(Wal.counts l).2.1.toArray⟩, .int .i64 (Wal.counts l).2.2]) ∧ Below w.heap.size w w' := by
  by_cases h12 : l.length < 12
  · have HW : Hid (Wal.counts l = (0, [], 0)) := Lib.hid (by unfold Wal.counts; rw [if_pos (.inl h12)])
    go_enter Tryz.func102, Tryz.ntmps102
    go_wp2_with fail
    go_ret3
    exact ⟨by rw [HW.out]; rfl, Below.refl _ _⟩
  obtain ⟨b, hb⟩ : ∃ b, decide (l.take 4 = Wal.magic) = b := ⟨_, rfl⟩
  have hext0 := bytes_extract l 4
  have hne : (l.take 4 == [83, 78, 76, 49]) = b := by
    rw [← hb, ← magic_eq]
  obtain ⟨m4, hm4⟩ : ∃ m4, l.take 4 = m4 := ⟨_, rfl⟩
  rw [hm4] at hext0 hne
  have HM4 := Lib.hid hm4
  clear hm4
  cases b with
  | false =>
    have HW : Hid (Wal.counts l = (0, [], 0)) := Lib.hid (by unfold Wal.counts; rw [if_pos (.inr (of_decide_eq_false hb))])
    clear hb
    go_enter Tryz.func102, Tryz.ntmps102
    go_wp2_with fail
    go_ret3
    exact ⟨by rw [HW.out]; rfl, Below.refl _ _⟩
  | true =>
    have hmag := of_decide_eq_true hb
    obtain ⟨l8, hl8⟩ : ∃ l8, (l.drop 4).take 8 = l8 := ⟨_, rfl⟩
    have hl8L : l8.length = 8 := by rw [← hl8]; simp; omega
    obtain ⟨n, hn⟩ : ∃ n, Sha.val l8 = n := ⟨_, rfl⟩
    have hnl : n < 18446744073709551616 := by
      have h := Sha.val_lt l8
      rw [hl8L, hn] at h
      exact h
    have hext := ext_take l 4 8
    rw [hl8] at hext
    obtain ⟨s, ok, hs⟩ : ∃ s ok, Wal.whole l 12 524288 = (s, ok) := ⟨_, _, rfl⟩
    have hsl : s.length ≤ 2097152 := by
      have h1 : (Wal.whole l 12 524288).1.length ≤ l.length := by
        unfold Wal.whole
        split
        · simp
        · split
          · simp
          · simp; omega
      rw [hs] at h1
      exact Nat.le_trans h1 hl
    have HWH : Hid (∀ W, Calls Tryz.prog 103 #[.string ⟨l.toArray⟩, .int .i64 12, .int .i64 524288] W fun e w' => e = .returned (.tuple #[.string ⟨s.toArray⟩, .bool ok]) ∧ Below W.heap.size W w') := Lib.hid fun W => by
      have := rwhole_any l 12 524288 W hl (by decide) (by decide)
      rw [hs] at this
      exact this
    have HOF : Hid (∀ W, Calls Tryz.prog 151 #[.string ⟨l8.toArray⟩] W fun e w' => e = .returned (.int .u64 n) ∧ W = w') := Lib.hid fun W => by
      have := rvalue_any l8 W (by omega)
      rw [hn] at this
      exact this
    have hcount : Wal.counts l = if ok = false ∨ 4611686018427387904 < n then (0, [], 0) else (n, s, 20 + s.length) := by
      unfold Wal.counts
      rw [if_neg (by simp [hmag]; omega), hl8, hn, hs]
    have h3 : ok = false ∨ (ok = true ∧ 4611686018427387904 < n) ∨ (ok = true ∧ ¬ 4611686018427387904 < n) := by cases ok <;> simp <;> omega
    have HW0 : (ok = false ∨ 4611686018427387904 < n) → Hid (Wal.counts l = (0, [], 0)) := fun h => Lib.hid (by rw [hcount, if_pos h])
    have HW1 : ok = true → ¬ 4611686018427387904 < n → Hid (Wal.counts l = (n, s, 20 + s.length)) := fun h h' => Lib.hid (by rw [hcount, if_neg (by simp [h, h'])])
    clear hb hmag hl8 hl8L hn hs hcount
    rcases h3 with rfl | ⟨rfl, h4⟩ | ⟨rfl, h4⟩
    · have HW := HW0 (.inl rfl)
      clear HW0 HW1
      go_enter Tryz.func102, Tryz.ntmps102
      go_wp2_with fail
      refine (HOF.out w).mono ?_
      rintro e w1 ⟨rfl, rfl⟩
      go_wp2_with fail
      refine (HWH.out w).mono ?_
      rintro e w1 ⟨rfl, b1⟩
      have B1 := Lib.hid b1
      clear b1
      go_wp2_with fail
      go_ret3
      exact ⟨by rw [HW.out]; rfl, B1.out⟩
    · have HW := HW0 (.inr h4)
      clear HW0 HW1
      go_enter Tryz.func102, Tryz.ntmps102
      go_wp2_with fail
      refine (HOF.out w).mono ?_
      rintro e w1 ⟨rfl, rfl⟩
      go_wp2_with fail
      refine (HWH.out w).mono ?_
      rintro e w1 ⟨rfl, b1⟩
      have B1 := Lib.hid b1
      clear b1
      go_wp2_with fail
      go_ret3
      exact ⟨by rw [HW.out]; rfl, B1.out⟩
    · have HW := HW1 rfl h4
      clear HW0 HW1
      go_enter Tryz.func102, Tryz.ntmps102
      go_wp2_with fail
      refine (HOF.out w).mono ?_
      rintro e w1 ⟨rfl, rfl⟩
      go_wp2_with fail
      refine (HWH.out w).mono ?_
      rintro e w1 ⟨rfl, b1⟩
      have B1 := Lib.hid b1
      clear b1
      go_wp2_with fail
      go_ret3
      exact ⟨by rw [HW.out]; simp, B1.out⟩
end Go.Proofs.YtpjpknndfhablaaGreat
namespace Go.Proofs.YtpjpknndfhablaaGreat
open Go.RowKit
def rlogBlock (y : Nat) (l : Wal.LS) : Obj :=
  .cells #[.pointer (some ⟨y, 0, none⟩), .int .i64 (DS.fi l.f), .int .u64 l.g, .int .i64 l.n, .bool l.dead] 155 (0, 0)
/-- A log of the document lies in block x, over the disk in block y. -/
def RlogAt (w : World) (x y : Nat) (l : Wal.LS) : Prop := w.heap[x]? = some (rlogBlock y l)
theorem RlogAt.cells {w : World} {x y : Nat} {l : Wal.LS} (h : RlogAt w x y l) : w.cell? ⟨x, 0, none⟩ = some (.pointer (some ⟨y, 0, none⟩)) ∧ w.cell? ⟨x, 1, none⟩ = some (.int .i64 (DS.fi l.f)) ∧ w.cell? ⟨x, 2, none⟩ = some (.int .u64 l.g) ∧ w.cell? ⟨x, 3, none⟩ = some (.int .i64 l.n) ∧ w.cell? ⟨x, 4, none⟩ = some (.bool l.dead) ∧ (∀ i, w.frozen? ⟨x, i, none⟩ = false) ∧ x < w.heap.size :=
  ⟨cell_of h rfl, cell_of h rfl, cell_of h rfl, cell_of h rfl, cell_of h rfl, free_of h, heap_lt h⟩
theorem RlogAt.touch {S : Nat → Prop} {w w' : World} {x y : Nat} {l : Wal.LS} (h : RlogAt w x y l) (ht : Touch S w w') (hS : ¬ S x) : RlogAt w' x y l := (ht.block x (heap_lt h) hS).trans h
theorem RlogAt.below {w w' : World} {x y : Nat} {l : Wal.LS} (h : RlogAt w x y l) (hb : Below w.heap.size w w') : RlogAt w' x y l := stays h hb
theorem RlogAt.apart {w : World} {x y : Nat} {l : Wal.LS} (h : RlogAt w x y l) {y' : Nat} {d : DS} {ub : Option Nat} (hd : RefAt w y' d ub) : ¬ own2 y' ub x := by
  obtain ⟨_, us, hr, hrb⟩ := hd
  rintro (rfl | ho)
  · have := hr.blk; rw [h] at this; simp [refBlock, rlogBlock] at this
  · rw [← hrb] at ho
    rcases hr.own.2 with ⟨hv, _⟩ | ⟨g, cap, cur, hv, _, hg, _⟩
    · rw [hv] at ho; cases ho
    · rw [hv] at ho
      have e1 : g = x := Option.some.inj ho
      subst e1
      rw [h] at hg; simp [rlogBlock] at hg
theorem RlogAt.setDead {w : World} {x y : Nat} {l : Wal.LS} (h : RlogAt w x y l) : RlogAt (w.setCell ⟨x, 4, none⟩ (.bool true)) x y { l with dead := true } := by
  have := heap_set (i := 4) (.bool true) h
  simpa [RlogAt, rlogBlock] using this
theorem RlogAt.setN {w : World} {x y : Nat} {l : Wal.LS} (h : RlogAt w x y l) (n : Nat) : RlogAt (w.setCell ⟨x, 3, none⟩ (.int .i64 n)) x y { l with n := n } := by
  have := heap_set (i := 3) (.int .i64 n) h
  simpa [RlogAt, rlogBlock] using this
theorem RefAt.setLog {w : World} {y : Nat} {d : DS} {ub : Option Nat} (h : RefAt w y d ub) {x : Nat} {l : Wal.LS} (hl : RlogAt w x y l) (i : Nat) (v : Value) : RefAt (w.setCell ⟨x, i, none⟩ v) y d ub :=
  h.touch ((Touch.refl (· = x) w).setCell _ (fun _ => rfl)) (fun _ hk e => hl.apart h (e ▸ hk))
def ownR (y x : Nat) : Nat → Prop := fun k => k = y ∨ k = x
/-- What a piece of work on a log of the document leaves. -/
structure RWorked (x y : Nat) (l' : Wal.LS) (d' : DS) (ub : Option Nat) (w w' : World) : Prop where
  log : RlogAt w' x y l'
  disk : ∃ ub', RefAt w' y d' ub' ∧ Newer w ub ub'
  touch : Touch (ownR y x) w w'
theorem RWorked.stay {x y : Nat} {l : Wal.LS} {d : DS} {ub : Option Nat} {w w' : World} (hl : RlogAt w x y l) (h : RefAt w y d ub) (hb : Below w.heap.size w w') : RWorked x y l d ub w w' :=
  ⟨hl.below hb, ⟨ub, h.below hb, Newer.refl _ _⟩, Touch.of_below hb⟩
theorem RWorked.disked {x y : Nat} {l : Wal.LS} {d E : DS} {ub ub' : Option Nat} {w w1 w' : World} (hl : RlogAt w1 x y l) (h0 : RefAt w1 y d ub) (hb : Below w.heap.size w w1) (hd : RefAt w' y E ub') (hn : Newer w1 ub ub') (ht : Touch (· = y) w1 w') : RWorked x y l E ub w w' :=
  ⟨hl.touch ht (fun e => hl.apart h0 (.inl e)), ⟨ub', hd, hn.later hb.size⟩, Touch.trans (Touch.of_below hb) ht (fun _ _ h => .inl h)⟩
theorem RWorked.died {x y : Nat} {l : Wal.LS} {d : DS} {ub : Option Nat} {w w' : World} (h : RWorked x y l d ub w w') : RWorked x y { l with dead := true } d ub w (w'.setCell ⟨x, 4, none⟩ (.bool true)) := by
  obtain ⟨ub', h1, h2⟩ := h.disk
  exact ⟨h.log.setDead, ⟨ub', h1.setLog h.log 4 _, h2⟩, h.touch.setCell _ (fun _ => .inr rfl)⟩
theorem RWorked.counted {x y : Nat} {l : Wal.LS} {d : DS} {ub : Option Nat} {w w' : World} (h : RWorked x y l d ub w w') (n : Nat) : RWorked x y { l with n := n } d ub w (w'.setCell ⟨x, 3, none⟩ (.int .i64 n)) := by
  obtain ⟨ub', h1, h2⟩ := h.disk
  exact ⟨h.log.setN n, ⟨ub', h1.setLog h.log 3 _, h2⟩, h.touch.setCell _ (fun _ => .inr rfl)⟩
theorem RWorked.drew {x y : Nat} {l : Wal.LS} {d : DS} {ub : Option Nat} {w w' : World} (h : RWorked x y l d ub w w') : RWorked x y l d ub w w'.drew := by
  obtain ⟨ub', h1, h2⟩ := h.disk
  exact ⟨h.log.below ((Below.refl _ _).drew), ⟨ub', h1.below ((Below.refl _ _).drew), h2⟩, h.touch.drew⟩
theorem rsize_at (y : Nat) (w : World) (d : DS) (ub : Option Nat) (f : Bool) (h : RefAt w y d ub) : Calls Tryz.prog 89 #[.pointer (some ⟨y, 0, none⟩), .int .i64 (DS.fi f)] w fun e w' => e = .returned (.int .i64 (d.size f)) ∧ w = w' := by
  obtain ⟨ok, us, hr, _⟩ := h
  have := rsize_any y w d us (DS.fi f) hr ok
  have e : d.sizeI (DS.fi f) = (d.size f : Int) := by simp [DS.sizeI, DS.fileNo_of]
  rwa [e] at this
set_option maxHeartbeats 1000000 in
theorem rover_any (x y : Nat) (w : World) (l : Wal.LS) (hl : RlogAt w x y l) :
    Calls Tryz.prog 161 #[.pointer (some ⟨x, 0, none⟩)] w fun e w' => e = .returned (.int .i64 2) ∧ w' = w.setCell ⟨x, 4, none⟩ (.bool true) := by
  obtain ⟨_, _, _, _, c4, cf, _⟩ := hl.cells
  have cf4 := cf 4
  clear hl
  go_enter Tryz.func161, Tryz.ntmps161
  go_wp2
  go_ret
  exact ⟨rfl, rfl⟩
set_option maxHeartbeats 2000000 in
theorem rsyncL_any (x y : Nat) (w : World) (l : Wal.LS) (d : DS) (ub : Option Nat) (hl : RlogAt w x y l) (h : RefAt w y d ub) :
    Calls Tryz.prog 129 #[.pointer (some ⟨x, 0, none⟩)] w fun e w' => e = .returned (.int .i64 (Wal.sync l d).2.2) ∧ RWorked x y (Wal.sync l d).1 (Wal.sync l d).2.1 ub w w' := by
  obtain ⟨c0, _, _, _, c4, _, _⟩ := hl.cells
  have HL := Lib.hid hl
  have HD := Lib.hid h
  clear hl h
  cases hdd : l.dead with
  | true =>
    rw [hdd] at c4
    have HX : Hid (Wal.sync l d = (l, d, 2)) := Lib.hid (by unfold Wal.sync; rw [if_pos hdd])
    go_enter Tryz.func129, Tryz.ntmps129
    go_wp2_with fail
    go_ret
    rw [HX.out]
    exact ⟨rfl, RWorked.stay HL.out HD.out (Below.refl _ _)⟩
  | false =>
    rw [hdd] at c4
    obtain ⟨q, hq⟩ : ∃ q, d.sync.2 = q := ⟨_, rfl⟩
    have HQ := Lib.hid hq
    have HDD := Lib.hid hdd
    clear hq hdd
    go_enter Tryz.func129, Tryz.ntmps129
    go_wp2_with fail
    refine (rsync_any y _ d ub HD.out).mono ?_
    rw [HQ.out]
    rintro e w1 ⟨rfl, ub', hd1, hn1, ht1⟩
    have hw := RWorked.disked HL.out HD.out (Below.refl _ _) hd1 hn1 ht1
    have HW := Lib.hid hw
    clear hd1 hn1 ht1 hw
    by_cases hq0 : q = 0
    · subst hq0
      have HX : Hid (Wal.sync l d = (l, d.sync.1, 0)) := Lib.hid (by unfold Wal.sync; rw [if_neg (by simp [HDD.out]), if_neg (by simp [HQ.out])])
      go_wp2_with fail
      go_ret
      rw [HX.out]
      exact ⟨rfl, HW.out⟩
    · have HX : Hid (Wal.sync l d = ({ l with dead := true }, d.sync.1, 2)) := Lib.hid (by unfold Wal.sync; rw [if_neg (by simp [HDD.out]), if_pos (by rw [HQ.out]; exact hq0)])
      go_wp2_with fail
      refine (rover_any x y _ l HW.out.log).mono ?_
      rintro e w2 ⟨rfl, rfl⟩
      go_wp2_with fail
      go_ret
      rw [HX.out]
      exact ⟨rfl, HW.out.died⟩
set_option maxHeartbeats 2000000 in
set_option maxRecDepth 100000 in
theorem rroomL_any (x y : Nat) (w : World) (l : Wal.LS) (d : DS) (ub : Option Nat) (hl : RlogAt w x y l) (h : RefAt w y d ub) :
    Calls Tryz.prog 164 #[.pointer (some ⟨x, 0, none⟩)] w fun e w' => e = .returned (.int .i64 (Wal.room l d)) ∧ Below w.heap.size w w' := by
  obtain ⟨c0, c1, _⟩ := hl.cells
  have hz := h.1.base_len' l.f
  obtain ⟨z, hzz⟩ : ∃ z, d.size l.f = z := ⟨_, rfl⟩
  rw [hzz] at hz
  have HZ := Lib.hid hzz
  have HD := Lib.hid h
  have HB : Hid (∀ w' : World, Below w.heap.size w w' → (Below w.heap.size w w' ∧ w'.cell? ⟨x, 0, none⟩ = some (.pointer (some ⟨y, 0, none⟩)) ∧ w'.cell? ⟨x, 1, none⟩ = some (.int .i64 (DS.fi l.f)))) := fun w' hb => ⟨hb, cell_later hb c0, cell_later hb c1⟩
  have hw1 : IntKind.i64.wrap (1048576 - (z : Int)) = 1048576 - (z : Int) := IntWalk.i64_in _ (by omega)
  have hw2 : IntKind.i64.wrap (1048576 - (z : Int) - 8) = 1048576 - (z : Int) - 8 := IntWalk.i64_in _ (by omega)
  have hcase : (¬ (1048576 - (z : Int) - 8 < 65536) ∧ ¬ (1048576 - (z : Int) - 8 < 0)) ∨ (1048576 - (z : Int) - 8 < 65536 ∧ ¬ (1048576 - (z : Int) - 8 < 0)) ∨ (1048576 - (z : Int) - 8 < 0) := by omega
  clear hl h hzz
  rcases hcase with ⟨k1, k2⟩ | ⟨k1, k2⟩ | k2
  all_goals go_enter Tryz.func164, Tryz.ntmps164
  all_goals go_wp2
  all_goals go_region_held3 (fun w' => Below w.heap.size w w' ∧ w'.cell? ⟨x, 0, none⟩ = some (.pointer (some ⟨y, 0, none⟩)) ∧ w'.cell? ⟨x, 1, none⟩ = some (.int .i64 (DS.fi l.f)))
    (first | assumption | exact HB.out _ (Below.refl _ _).drew | exact HB.out _ (bthen (by assumption : Below w.heap.size w _ ∧ _).1 (by assumption)))
    (first | (go_at_call 89; refine (rsize_at y _ d ub l.f (HD.out.below (by assumption : Below w.heap.size w _ ∧ _).1)).mono ?_; rw [HZ.out]; rintro e w' ⟨rfl, rfl⟩))
  all_goals rename_i hheld
  all_goals go_wp2
  all_goals go_ret
  all_goals exact ⟨ret_int (by unfold Wal.room; rw [HZ.out]; omega), hheld.1⟩
end Go.Proofs.YtpjpknndfhablaaGreat
namespace Go.Proofs.YtpjpknndfhablaaGreat
open Go.RowKit
set_option maxHeartbeats 4000000 in
set_option maxRecDepth 100000 in
theorem rappendL_any (x y : Nat) (w : World) (l : Wal.LS) (d : DS) (ub : Option Nat) (s : List UInt8) (hl : RlogAt w x y l) (h : RefAt w y d ub) (hs : s.length ≤ 140737488355328) (hln : l.n ≤ 4611686018427387904) :
    Calls Tryz.prog 165 #[.pointer (some ⟨x, 0, none⟩), .string ⟨s.toArray⟩] w fun e w' => e = .returned (.int .i64 (Wal.append l d s).2.2) ∧ RWorked x y (Wal.append l d s).1 (Wal.append l d s).2.1 ub w w' := by
  obtain ⟨c0, c1, _, _, c4, _, _⟩ := hl.cells
  have HL := Lib.hid hl
  have HD := Lib.hid h
  have hz := h.1.base_len' l.f
  obtain ⟨z, hzz⟩ : ∃ z, d.size l.f = z := ⟨_, rfl⟩
  rw [hzz] at hz
  have HZ := Lib.hid hzz
  clear hl h hzz
  cases hdd : l.dead with
  | true =>
    rw [hdd] at c4
    have HX : Hid (Wal.append l d s = (l, d, 2)) := Lib.hid (by unfold Wal.append; rw [if_pos hdd])
    go_enter Tryz.func165, Tryz.ntmps165
    go_wp2_with fail
    go_ret
    rw [HX.out]
    exact ⟨rfl, RWorked.stay HL.out HD.out (Below.refl _ _)⟩
  | false =>
    rw [hdd] at c4
    have HDD := Lib.hid hdd
    clear hdd
    by_cases hlong : 65536 < s.length
    · have HX : Hid (Wal.append l d s = (l, d, 101)) := Lib.hid (by unfold Wal.append; rw [if_neg (by simp [HDD.out]), if_pos hlong])
      go_enter Tryz.func165, Tryz.ntmps165
      go_wp2_with fail
      go_ret
      rw [HX.out]
      exact ⟨rfl, RWorked.stay HL.out HD.out (Below.refl _ _)⟩
    · have HB : Hid (∀ w' : World, Below w.heap.size w w' → (Below w.heap.size w w' ∧ w'.cell? ⟨x, 0, none⟩ = some (.pointer (some ⟨y, 0, none⟩)) ∧ w'.cell? ⟨x, 1, none⟩ = some (.int .i64 (DS.fi l.f)))) := fun w' hb => ⟨hb, cell_later hb c0, cell_later hb c1⟩
      have hw1 : IntKind.i64.wrap ((z : Int) + 8) = (z : Int) + 8 := IntWalk.i64_in _ (by omega)
      have hw2 : IntKind.i64.wrap ((z : Int) + 8 + s.length) = (z : Int) + 8 + s.length := IntWalk.i64_in _ (by omega)
      go_enter Tryz.func165, Tryz.ntmps165
      go_wp2_with fail
      go_region_held3 (fun w' => Below w.heap.size w w' ∧ w'.cell? ⟨x, 0, none⟩ = some (.pointer (some ⟨y, 0, none⟩)) ∧ w'.cell? ⟨x, 1, none⟩ = some (.int .i64 (DS.fi l.f)))
        (first | assumption | exact HB.out _ (Below.refl _ _).drew | exact HB.out _ (bthen (by assumption : Below w.heap.size w _ ∧ _).1 (by assumption)))
        (first | (go_at_call 89; refine (rsize_at y _ d ub l.f (HD.out.below (by assumption : Below w.heap.size w _ ∧ _).1)).mono ?_; rw [HZ.out]; rintro e w' ⟨rfl, rfl⟩))
      rename_i hheld
      generalize w.drew = w1 at hheld ⊢
      try rw [hw1]
      try rw [hw2]
      have B1 := Lib.hid hheld.1
      have hS0 := hheld.2
      clear hheld c0 c1 c4 hw1 hw2
      by_cases hfull : 1048576 < z + 8 + s.length
      · have HX : Hid (Wal.append l d s = (l, d, 102)) := Lib.hid (by unfold Wal.append; rw [if_neg (by simp [HDD.out]), if_neg hlong, HZ.out, if_pos hfull])
        go_wp2_with fail
        go_ret
        rw [HX.out]
        exact ⟨rfl, RWorked.stay HL.out HD.out B1.out⟩
      · obtain ⟨B, hB⟩ : ∃ B, Wal.frame s = B := ⟨_, rfl⟩
        have hBl : B.length = 8 + s.length := by rw [← hB]; exact Wal.frame_length _
        have HBB := Lib.hid hB
        obtain ⟨n, hn⟩ : ∃ n, (d.append (DS.fi l.f) B).2 = n := ⟨_, rfl⟩
        have HN := Lib.hid hn
        clear hn hB
        have HL1 := Lib.hid (HL.out.below B1.out)
        have HD1 := Lib.hid (HD.out.below B1.out)
        obtain ⟨e0, e1⟩ := hS0
        go_wp2_with fail
        have hS1 : w1.drew.cell? ⟨x, 0, none⟩ = some (.pointer (some ⟨y, 0, none⟩)) ∧ w1.drew.cell? ⟨x, 1, none⟩ = some (.int .i64 (DS.fi l.f)) := ⟨e0, e1⟩
        refine wp_region_heldL (S := fun w' => w'.cell? ⟨x, 0, none⟩ = some (.pointer (some ⟨y, 0, none⟩)) ∧ w'.cell? ⟨x, 1, none⟩ = some (.int .i64 (DS.fi l.f))) (by kernel_rfl) ?_
        refine wpAnyH_takeL (i := 0) (v := ?_) rfl (by kernel_rfl) (by kernel_rfl) (by kernel_rfl) (fun _ _ _ h => h) ?_ (by assumption) ?_; rotate_left; focus (first | (refine Or.inr ⟨by rfl, ?_⟩; with_reducible rfl) | (refine Or.inl ⟨by rfl, ?_⟩; (intro w hSw; (try dsimp only at hSw); go_simp); try with_reducible rfl))
        try simp only [Act.put, List.setIfInBounds_toArray, List.set_cons_zero, List.set_cons_succ]
        refine wpAnyH_takeL (i := 1) (v := ?_) rfl (by kernel_rfl) (by kernel_rfl) (by kernel_rfl) (fun _ _ _ h => h) ?_ (by assumption) ?_; rotate_left; focus (first | (refine Or.inr ⟨by rfl, ?_⟩; with_reducible rfl) | (refine Or.inl ⟨by rfl, ?_⟩; (intro w hSw; (try dsimp only at hSw); go_simp); try with_reducible rfl))
        try simp only [Act.put, List.setIfInBounds_toArray, List.set_cons_zero, List.set_cons_succ]
        refine wpAnyH_takeL (i := 2) (v := ?_) rfl (by kernel_rfl) (by kernel_rfl) (by kernel_rfl) (fun _ _ _ h => h) ?_ (by assumption) ?_; rotate_left; focus (first | (refine Or.inr ⟨by rfl, ?_⟩; with_reducible rfl) | (refine Or.inl ⟨by rfl, ?_⟩; (intro w hSw; (try dsimp only at hSw); go_simp); try with_reducible rfl))
        try simp only [Act.put, List.setIfInBounds_toArray, List.set_cons_zero, List.set_cons_succ]
        refine wpAnyH_takeL (i := 3) (v := ?_) rfl (by kernel_rfl) (by kernel_rfl) (by kernel_rfl) (fun _ _ _ h => h) ?_ (by assumption) ?_; rotate_left; focus (first | (refine Or.inr ⟨by rfl, ?_⟩; with_reducible rfl) | (refine Or.inl ⟨by rfl, ?_⟩; (intro w hSw; (try dsimp only at hSw); go_simp); try with_reducible rfl))
        try simp only [Act.put, List.setIfInBounds_toArray, List.set_cons_zero, List.set_cons_succ]
        refine wpAnyH_takeL (i := 4) (v := ?_) rfl (by kernel_rfl) (by kernel_rfl) (by kernel_rfl) (fun _ _ _ h => h) ?_ (by assumption) ?_; rotate_left; focus (first | (refine Or.inr ⟨by rfl, ?_⟩; with_reducible rfl) | (refine Or.inl ⟨by rfl, ?_⟩; (intro w hSw; (try dsimp only at hSw); go_simp); try with_reducible rfl))
        try simp only [Act.put, List.setIfInBounds_toArray, List.set_cons_zero, List.set_cons_succ]
        refine wpAnyH_takeL (i := 5) (v := ?_) rfl (by kernel_rfl) (by kernel_rfl) (by kernel_rfl) (fun _ _ _ h => h) ?_ (by assumption) ?_; rotate_left; focus (first | (refine Or.inr ⟨by rfl, ?_⟩; with_reducible rfl) | (refine Or.inl ⟨by rfl, ?_⟩; (intro w hSw; (try dsimp only at hSw); go_simp); try with_reducible rfl))
        try simp only [Act.put, List.setIfInBounds_toArray, List.set_cons_zero, List.set_cons_succ]
        refine wpAnyH_takeL (i := 6) (v := ?_) rfl (by kernel_rfl) (by kernel_rfl) (by kernel_rfl) (fun _ _ _ h => h) ?_ (by assumption) ?_; rotate_left; focus (first | (refine Or.inr ⟨by rfl, ?_⟩; with_reducible rfl) | (refine Or.inl ⟨by rfl, ?_⟩; (intro w hSw; (try dsimp only at hSw); go_simp); try with_reducible rfl))
        try simp only [Act.put, List.setIfInBounds_toArray, List.set_cons_zero, List.set_cons_succ]
        refine wpAnyH_takeL (i := 7) (v := ?_) rfl (by kernel_rfl) (by kernel_rfl) (by kernel_rfl) (fun _ _ _ h => h) ?_ (by assumption) ?_; rotate_left; focus (first | (refine Or.inr ⟨by rfl, ?_⟩; with_reducible rfl) | (refine Or.inl ⟨by rfl, ?_⟩; (intro w hSw; (try dsimp only at hSw); go_simp); try with_reducible rfl))
        try simp only [Act.put, List.setIfInBounds_toArray, List.set_cons_zero, List.set_cons_succ]
        refine wpAnyH_takeL (i := 8) (v := ?_) rfl (by kernel_rfl) (by kernel_rfl) (by kernel_rfl) (fun _ _ _ h => h) ?_ (by assumption) ?_; rotate_left; focus (first | (refine Or.inr ⟨by rfl, ?_⟩; with_reducible rfl) | (refine Or.inl ⟨by rfl, ?_⟩; (intro w hSw; (try dsimp only at hSw); go_simp); try with_reducible rfl))
        try simp only [Act.put, List.setIfInBounds_toArray, List.set_cons_zero, List.set_cons_succ]
        refine wpAnyH_oneL (i := 9) rfl (by kernel_rfl) ?_
        intro K hK
        rw [if_pos (by rfl)]
        go_simp
        go_at_call 92
        refine (rframe_any s _ (by omega)).mono ?_
        rw [HBB.out]
        rintro e w2 ⟨rfl, b2⟩
        have B2 := Lib.hid (bthen ((Below.refl _ w1).drew) b2)
        have hS2 : w2.cell? ⟨x, 0, none⟩ = some (.pointer (some ⟨y, 0, none⟩)) ∧ w2.cell? ⟨x, 1, none⟩ = some (.int .i64 (DS.fi l.f)) := ⟨cell_later b2 hS1.1, cell_later b2 hS1.2⟩
        clear b2
        refine hK _ _ hS2 ?_
        clear hK K
        try simp only [Act.put, List.setIfInBounds_toArray, List.set_cons_zero, List.set_cons_succ]
        refine wpAnyH_oneL (i := 10) rfl (by kernel_rfl) ?_
        intro K hK
        rw [if_pos (by rfl)]
        go_simp
        go_at_call 90
        refine (rappend_any y _ d ub (DS.fi l.f) B (HD1.out.below B2.out) (by omega)).mono ?_
        rw [HN.out]
        rintro e w3 ⟨rfl, ub', hd3, hn3, ht3⟩
        have hne : ¬ x = y := fun e => (HL1.out.below B2.out).apart (HD1.out.below B2.out) (.inl e)
        have hS3 : w3.cell? ⟨x, 0, none⟩ = some (.pointer (some ⟨y, 0, none⟩)) ∧ w3.cell? ⟨x, 1, none⟩ = some (.int .i64 (DS.fi l.f)) := ⟨cell_touch hS2.1 ht3 hne, cell_touch hS2.2 ht3 hne⟩
        have HW := Lib.hid (RWorked.disked (w := w) (HL1.out.below B2.out) (HD1.out.below B2.out) (bthen B1.out B2.out) hd3 hn3 ht3)
        clear hd3 hn3 ht3
        refine hK _ _ hS3 ?_
        clear hK K
        try simp only [Act.put, List.setIfInBounds_toArray, List.set_cons_zero, List.set_cons_succ]
        by_cases hn0 : n = 0
        · subst hn0
          have HX : Hid (Wal.append l d s = ({ l with n := l.n + 1 }, (d.append (DS.fi l.f) B).1, 0)) := Lib.hid (by unfold Wal.append; rw [if_neg (by simp [HDD.out]), if_neg hlong, HZ.out, if_neg hfull, HBB.out, HN.out]; simp)
          refine wpAnyH_takeL (i := 11) (v := ?_) rfl (by kernel_rfl) (by kernel_rfl) (by kernel_rfl) (fun _ _ _ h => h) ?_ (by assumption) ?_; rotate_left; focus (first | (refine Or.inr ⟨by rfl, ?_⟩; with_reducible rfl) | (refine Or.inl ⟨by rfl, ?_⟩; (intro w hSw; (try dsimp only at hSw); go_simp); try with_reducible rfl))
          try simp only [Act.put, List.setIfInBounds_toArray, List.set_cons_zero, List.set_cons_succ]
          refine wpAnyH_done (by kernel_rfl) ?_ _
          obtain ⟨_, _, _, e3, _, ef, _⟩ := HW.out.log.cells
          have f3 := ef 3
          clear hS3 hS2 hS1 e0 e1 ef
          go_wp2_with fail
          go_ret
          rw [HX.out]
          exact ⟨rfl, HW.out.counted (l.n + 1)⟩
        · have HX : Hid (Wal.append l d s = ({ l with dead := true }, (d.append (DS.fi l.f) B).1, 2)) := Lib.hid (by unfold Wal.append; rw [if_neg (by simp [HDD.out]), if_neg hlong, HZ.out, if_neg hfull, HBB.out, if_pos (by rw [HN.out]; exact hn0)])
          refine wpAnyH_takeL (i := 11) (v := ?_) rfl (by kernel_rfl) (by kernel_rfl) (by kernel_rfl) (fun _ _ _ h => h) ?_ (by assumption) ?_; rotate_left; focus (first | (refine Or.inr ⟨by rfl, ?_⟩; with_reducible rfl) | (refine Or.inl ⟨by rfl, ?_⟩; (intro w hSw; (try dsimp only at hSw); go_simp); try with_reducible rfl))
          try simp only [Act.put, List.setIfInBounds_toArray, List.set_cons_zero, List.set_cons_succ]
          refine wpAnyH_done (by kernel_rfl) ?_ _
          clear hS3 hS2 hS1 e0 e1
          go_wp2_with fail
          refine (rover_any x y _ l HW.out.log).mono ?_
          rintro e w4 ⟨rfl, rfl⟩
          go_wp2_with fail
          go_ret
          rw [HX.out]
          exact ⟨rfl, HW.out.died⟩
end Go.Proofs.YtpjpknndfhablaaGreat

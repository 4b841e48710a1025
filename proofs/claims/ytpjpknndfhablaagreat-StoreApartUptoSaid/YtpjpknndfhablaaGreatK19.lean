/- One store of the program on a disk that the call itself made, with one transaction or none: the contracts once more. The calls of the law's own 'fixed' of chapter 10, reckoned. Plain Lean. The calls of the law's own 'fixed' of chapter 11, reckoned. Plain Lean. Walks of the document's Frame, Whole, Counts. The document's log: where it lies; over, Sync, Room, Copy. The document's log: Append, Copy. -/
import Derived.Test.YtpjpknndfhablaaGreatK6
import Derived.Test.YtpjpknndfhablaaGreatK12
import Derived.Test.YtpjpknndfhablaaGreatK14
import Derived.Test.YtpjpknndfhablaaGreatK17
import Derived.Test.YtpjpknndfhablaaGreatK18
namespace Go.Proofs.YtpjpknndfhablaaGreat
open Go.RowKit
/-- In w a store in block x over the disk in block c, both made since w0. -/
def Sone (w0 w : World) (x c : Nat) (s : SS) (d : DS) (m : Nat) : Prop :=
  ∃ lg mb rb, StoAt w x lg c mb s ∧ DiskAt w c d m rb ∧ Below w0.heap.size w0 w ∧ w0.heap.size ≤ x ∧ w0.heap.size ≤ lg ∧ w0.heap.size ≤ mb ∧ w0.heap.size ≤ c ∧ (∀ k, rb = some k → w0.heap.size ≤ k)
/-- .. and a transaction of it in block y. -/
def Stx (w0 w : World) (x c : Nat) (s : SS) (d : DS) (m : Nat) (y : Nat) (t : TS) : Prop :=
  ∃ lg mb rb pm wm, StoAt w x lg c mb s ∧ DiskAt w c d m rb ∧ Below w0.heap.size w0 w ∧ w0.heap.size ≤ x ∧ w0.heap.size ≤ lg ∧ w0.heap.size ≤ mb ∧ w0.heap.size ≤ c ∧ (∀ k, rb = some k → w0.heap.size ≤ k) ∧
    TxAt w x y pm wm t ∧ pm ≠ some mb ∧ w0.heap.size ≤ y ∧ w0.heap.size ≤ wm ∧ ∀ b, pm = some b → w0.heap.size ≤ b
section
variable {w0 w : World} {x c : Nat} {s : SS} {d : DS} {m : Nat}
theorem Sone.below {w' : World} (h : Sone w0 w x c s d m) (hb : Below w.heap.size w w') : Sone w0 w' x c s d m := by
  obtain ⟨lg, mb, rb, h1, h2, h3, h4⟩ := h
  exact ⟨lg, mb, rb, h1.below hb, h2.below hb, h3.trans (hb.mono h3.size), h4⟩
theorem Stx.below {y : Nat} {t : TS} {w' : World} (h : Stx w0 w x c s d m y t) (hb : Below w.heap.size w w') : Stx w0 w' x c s d m y t := by
  obtain ⟨lg, mb, rb, pm, wm, h1, h2, h3, h4, h5, h6, h7, h8, h9, h10⟩ := h
  exact ⟨lg, mb, rb, pm, wm, h1.below hb, h2.below hb, h3.trans (hb.mono h3.size), h4, h5, h6, h7, h8, h9.below hb, h10⟩
theorem Stx.one {y : Nat} {t : TS} (h : Stx w0 w x c s d m y t) : Sone w0 w x c s d m := by
  obtain ⟨lg, mb, rb, pm, wm, h1, h2, h3, h4, h5, h6, h7, h8, _⟩ := h
  exact ⟨lg, mb, rb, h1, h2, h3, h4, h5, h6, h7, h8⟩
theorem Sone.old (h : Sone w0 w x c s d m) : Below w0.heap.size w0 w := by obtain ⟨lg, mb, rb, _, _, h3, _⟩ := h; exact h3
theorem Sone.disk (h : Sone w0 w x c s d m) : DiskNew w0 w c d m := by obtain ⟨lg, mb, rb, _, h2, h3, _, _, _, h7, h8⟩ := h; exact ⟨h7, h3, rb, h2, h8⟩
theorem Sone.ok (h : Sone w0 w x c s d m) : d.Ok ∧ Sto.Good s.ps ∧ Sto.fits s.ps = true := by obtain ⟨lg, mb, rb, h1, h2, _⟩ := h; exact ⟨h2.1, h1.good, h1.fits⟩
/-- Behind a piece of work on the store. -/
theorem Sone.worked {lg mb : Nat} {rb : Option Nat} {s' : SS} {d' : DS} {m' : Nat} {w' : World} (h3 : Below w0.heap.size w0 w) (h4 : w0.heap.size ≤ x) (h5 : w0.heap.size ≤ lg) (h6 : w0.heap.size ≤ mb) (h7 : w0.heap.size ≤ c) (h8 : ∀ k, rb = some k → w0.heap.size ≤ k)
    (hw : SWorked x lg c mb s' d d' m' rb w w') : Sone w0 w' x c s' d' m' ∧ (d'.dead = true → d.dead = false → Sone w0 w' x c s' d' 0) := by
  obtain ⟨⟨mb', a1, a2⟩, ⟨rb', b1, b2, b3⟩, c1⟩ := hw
  have hold : Below w0.heap.size w0 w' := h3.trans (c1.below h3.size fun k hk ho => by
    rcases ho with ((rfl | ho) | rfl) | rfl
    · omega
    · have := h8 k ho; omega
    · omega
    · omega)
  have hmb : w0.heap.size ≤ mb' := by rcases a2 with rfl | a2; exact h6; exact Nat.le_trans h3.size a2
  have hr' : ∀ k, rb' = some k → w0.heap.size ≤ k := fun k hk => (b2 k hk).elim (h8 k) (Nat.le_trans h3.size)
  refine ⟨⟨lg, mb', rb', a1, b1, hold, h4, h5, hmb, h7, hr'⟩, fun e1 e2 => ?_⟩
  obtain rfl := b3 e1 e2
  exact ⟨lg, mb', none, a1, b1.fresh, hold, h4, h5, hmb, h7, hr'⟩
theorem sync_sone (h : Sone w0 w x c s d m) : Calls Tryz.prog 41 #[.pointer (some ⟨x, 0, none⟩)] w fun e w' => e = .returned (.int .i64 (s.sync d).2.2) ∧ Sone w0 w' x c (s.sync d).1 (s.sync d).2.1 m ∧ ((s.sync d).2.1.dead = true → d.dead = false → Sone w0 w' x c (s.sync d).1 (s.sync d).2.1 0) := by
  obtain ⟨lg, mb, rb, h1, h2, h3, h4, h5, h6, h7, h8⟩ := h
  exact (sync11_any x lg c mb w s d m rb h1 h2).mono fun e w' ⟨he, hw⟩ => ⟨he, Sone.worked h3 h4 h5 h6 h7 h8 hw⟩
theorem check_sone (h : Sone w0 w x c s d m) (hm : m < 5000000000000) (hlg : s.l.g ≤ 4611686018427387904) : Calls Tryz.prog 60 #[.pointer (some ⟨x, 0, none⟩)] w fun e w' => e = .returned (.int .i64 (s.check d).2.2) ∧ Sone w0 w' x c (s.check d).1 (s.check d).2.1 (m + 1) ∧ ((s.check d).2.1.dead = true → d.dead = false → Sone w0 w' x c (s.check d).1 (s.check d).2.1 0) := by
  obtain ⟨lg, mb, rb, h1, h2, h3, h4, h5, h6, h7, h8⟩ := h
  exact (check11_any x lg c mb w s d m rb h1 h2 hm hlg).mono fun e w' ⟨he, hw⟩ => ⟨he, Sone.worked h3 h4 h5 h6 h7 h8 hw⟩
theorem keys_sone (h : Sone w0 w x c s d m) : Calls Tryz.prog 42 #[.pointer (some ⟨x, 0, none⟩)] w fun e w' => e = .returned (.int .i64 s.ps.length) ∧ w' = w := by
  obtain ⟨lg, mb, rb, h1, _⟩ := h; exact keys11_any h1
theorem bytes_sone (h : Sone w0 w x c s d m) : Calls Tryz.prog 43 #[.pointer (some ⟨x, 0, none⟩)] w fun e w' => e = .returned (.int .i64 (Sto.size s.ps)) ∧ w' = w := by
  obtain ⟨lg, mb, rb, h1, _⟩ := h; exact bytes11_any h1
theorem dead_sone (h : Sone w0 w x c s d m) : Calls Tryz.prog 29 #[.pointer (some ⟨x, 0, none⟩)] w fun e w' => e = .returned (.bool s.dead) ∧ w' = w := by
  obtain ⟨lg, mb, rb, h1, _⟩ := h; exact dead11_any h1
theorem get_sone (h : Sone w0 w x c s d m) (k : Sto.S) (hk : k.length ≤ maxLen) : Calls Tryz.prog 40 #[.pointer (some ⟨x, 0, none⟩), .string ⟨k.toArray⟩] w fun e w' => e = .returned (.tuple #[.string ⟨((Sto.get s.ps k).getD []).toArray⟩, .bool (Sto.here s.ps k)]) ∧ w' = w := by
  obtain ⟨lg, mb, rb, h1, _⟩ := h; exact get11_any h1 k hk
theorem scan_sone (h : Sone w0 w x c s d m) (k : Sto.S) (most : Int) (hm1 : most ≤ 9223372036854775807) (hm2 : -9223372036854775808 ≤ most) : Calls Tryz.prog 20 #[.pointer (some ⟨x, 0, none⟩), .string ⟨k.toArray⟩, .int .i64 most] w fun e w' => ∃ v, e = .returned v ∧ PairsAt w' v (Sto.scan s.ps k most.toNat) ∧ (∀ g, v.ownBlock = some g → w.heap.size ≤ g) ∧ Below w.heap.size w w' := by
  obtain ⟨lg, mb, rb, h1, _⟩ := h; exact scan11_any h1 k most hm1 hm2
theorem begin_sone (h : Sone w0 w x c s d m) : Calls Tryz.prog 23 #[.pointer (some ⟨x, 0, none⟩)] w fun e w' => ∃ y, e = .returned (.pointer (some ⟨y, 0, none⟩)) ∧ Stx w0 w' x c s d m y s.begin_ := by
  obtain ⟨lg, mb, rb, h1, h2, h3, h4, h5, h6, h7, h8⟩ := h
  refine (begin11_any x lg c mb w s h1).mono ?_
  rintro e w' ⟨y, pm, wm, rfl, ht, hy, hp, hw, hb⟩
  have hml := h1.map.lt
  exact ⟨y, rfl, lg, mb, rb, some pm, wm, h1.below hb, h2.below hb, h3.trans (hb.mono h3.size), h4, h5, h6, h7, h8, ht, fun e => (by have := Option.some.inj e; omega), Nat.le_trans h3.size hy, Nat.le_trans h3.size hw, fun b e => by cases e; exact Nat.le_trans h3.size hp⟩
/-- The store stays where only the transaction's own map turns. -/
theorem StoAt.aside {lg mb : Nat} {rb : Option Nat} {w' : World} {y wm : Nat} {pm : Option Nat} {t : TS} (h1 : StoAt w x lg c mb s) (h2 : DiskAt w c d m rb) (ht : TxAt w x y pm wm t) (hpm : pm ≠ some mb) (hT : Touch (fun b => pm = some b) w w') : StoAt w' x lg c mb s ∧ DiskAt w' c d m rb := by
  cases pm with
  | none => exact ⟨h1.touch hT (by simp) (by simp) (by simp), h2.touch hT (fun _ _ e => by cases e)⟩
  | some pb =>
    have hf := h1.farMap h2 (l := t.now) ht.now
    exact ⟨h1.touch hT (fun e => hf (.inr (Option.some.inj e))) (fun e => hf (.inl (.inr (Option.some.inj e)))) (fun e => hpm e), h2.touch hT (fun k hk e => hf (.inl (.inl ((Option.some.inj e) ▸ hk))))⟩
theorem Stx.turned {y : Nat} {t t' : TS} {w' : World} {lg mb : Nat} {rb pm : Option Nat} {wm : Nat} (h1 : StoAt w x lg c mb s) (h2 : DiskAt w c d m rb) (h3 : Below w0.heap.size w0 w) (h4 : w0.heap.size ≤ x) (h5 : w0.heap.size ≤ lg) (h6 : w0.heap.size ≤ mb) (h7 : w0.heap.size ≤ c) (h8 : ∀ k, rb = some k → w0.heap.size ≤ k)
    (ht : TxAt w x y pm wm t) (hpm : pm ≠ some mb) (hy : w0.heap.size ≤ y) (hw : w0.heap.size ≤ wm) (hp : ∀ b, pm = some b → w0.heap.size ≤ b) (ht' : TxAt w' x y pm wm t') (hT : Touch (fun b => pm = some b) w w') : Stx w0 w' x c s d m y t' := by
  obtain ⟨a1, a2⟩ := h1.aside h2 ht hpm hT
  exact ⟨lg, mb, rb, pm, wm, a1, a2, h3.trans (hT.below h3.size fun k hk e => by have := hp k e; omega), h4, h5, h6, h7, h8, ht', hpm, hy, hw, hp⟩
end
section
variable {w0 w : World} {x c : Nat} {s : SS} {d : DS} {m : Nat} {y : Nat} {t : TS} (h : Stx w0 w x c s d m y t)
include h
theorem put_stx (k v : Sto.S) (hk : k.length ≤ maxLen) (hv : v.length ≤ maxLen) (hl : t.now.length < maxLen) : Calls Tryz.prog 24 #[.pointer (some ⟨y, 0, none⟩), .string ⟨k.toArray⟩, .string ⟨v.toArray⟩] w fun e w' => e = .returned (.int .i64 (t.put k v).2) ∧ Stx w0 w' x c s d m y (t.put k v).1 := by
  obtain ⟨lg, mb, rb, pm, wm, h1, h2, h3, h4, h5, h6, h7, h8, h9, h10, h11, h12, h13⟩ := h
  exact (put11_any h9 k v hk hv hl).mono fun e w' ⟨he, ht, hT⟩ => ⟨he, Stx.turned h1 h2 h3 h4 h5 h6 h7 h8 h9 h10 h11 h12 h13 ht hT⟩
theorem del_stx (k : Sto.S) (hk : k.length ≤ maxLen) : Calls Tryz.prog 25 #[.pointer (some ⟨y, 0, none⟩), .string ⟨k.toArray⟩] w fun e w' => e = .returned (.int .i64 (t.del k).2) ∧ Stx w0 w' x c s d m y (t.del k).1 := by
  obtain ⟨lg, mb, rb, pm, wm, h1, h2, h3, h4, h5, h6, h7, h8, h9, h10, h11, h12, h13⟩ := h
  exact (delete11_any h9 k hk).mono fun e w' ⟨he, ht, hT⟩ => ⟨he, Stx.turned h1 h2 h3 h4 h5 h6 h7 h8 h9 h10 h11 h12 h13 ht hT⟩
theorem get_stx (k : Sto.S) (hk : k.length ≤ maxLen) : Calls Tryz.prog 39 #[.pointer (some ⟨y, 0, none⟩), .string ⟨k.toArray⟩] w fun e w' => e = .returned (.tuple #[.string ⟨((Sto.get t.now k).getD []).toArray⟩, .bool (Sto.here t.now k)]) ∧ w' = w := by
  obtain ⟨lg, mb, rb, pm, wm, h1, h2, h3, h4, h5, h6, h7, h8, h9, _⟩ := h
  exact txget11_any h9 k hk
theorem txscan_stx (k : Sto.S) (most : Int) (hlen : t.now.length ≤ 4398046511104) (hm1 : most ≤ 9223372036854775807) (hm2 : -9223372036854775808 ≤ most) : Calls Tryz.prog 26 #[.pointer (some ⟨y, 0, none⟩), .string ⟨k.toArray⟩, .int .i64 most] w fun e w' => ∃ v, e = .returned v ∧ PairsAt w' v (Sto.scan t.now k most.toNat) ∧ (∀ g, v.ownBlock = some g → w.heap.size ≤ g) ∧ Below w.heap.size w w' := by
  obtain ⟨lg, mb, rb, pm, wm, h1, h2, h3, h4, h5, h6, h7, h8, h9, _⟩ := h
  exact txscan11_any h9 k most hlen hm1 hm2
theorem commit_stx (hm : m < 4999999999999) (hlg : s.l.g ≤ 4611686018427387904) (hln : s.l.n ≤ 4611686018427387904) (hl1 : t.now.length ≤ 4194304) (hl2 : t.was.length ≤ 4096) (hturn : s.turn ≤ 4611686018427387904) :
    Calls Tryz.prog 27 #[.pointer (some ⟨y, 0, none⟩)] w fun e w' => e = .returned (.int .i64 (s.commit t d).2.2) ∧ Stx w0 w' x c (s.commit t d).1 (s.commit t d).2.1 (m + 2) y (if t.over then t else t.ends) ∧ ((s.commit t d).2.1.dead = true → d.dead = false → Sone w0 w' x c (s.commit t d).1 (s.commit t d).2.1 0) := by
  obtain ⟨lg, mb, rb, pm, wm, h1, h2, h3, h4, h5, h6, h7, h8, h9, h10, h11, h12, h13⟩ := h
  refine (commit11_any x lg c mb y wm pm w s t d m rb h1 h2 h9 hm hlg hln hl1 hl2 hturn).mono ?_
  rintro e w' ⟨rfl, ⟨mb', a1, a2⟩, ⟨rb', b1, b2, b3⟩, c1, t1⟩
  have hold : Below w0.heap.size w0 w' := h3.trans (c1.below h3.size fun k hk ho => by
    rcases ho with ((rfl | ho) | rfl) | (rfl | rfl)
    · omega
    · have := h8 k ho; omega
    · omega
    · omega
    · omega)
  have hmb : w0.heap.size ≤ mb' := by rcases a2 with rfl | a2; exact h6; exact Nat.le_trans h3.size a2
  have hr' : ∀ k, rb' = some k → w0.heap.size ≤ k := fun k hk => (b2 k hk).elim (h8 k) (Nat.le_trans h3.size)
  have hp' : ∀ b, (if t.over then pm else none) = some b → pm = some b := fun b e => by split at e; exact e; cases e
  refine ⟨rfl, ⟨lg, mb', rb', _, wm, a1, b1, hold, h4, h5, hmb, h7, hr', t1, fun e => ?_, h11, h12, fun b e => h13 b (hp' b e)⟩, fun e1 e2 => ?_⟩
  · have e1 := hp' _ e
    rcases a2 with rfl | a2
    · exact h10 e1
    · have := (h9.now.lt) mb' e1
      omega
  · obtain rfl := b3 e1 e2
    exact ⟨lg, mb', none, a1, b1.fresh, hold, h4, h5, hmb, h7, hr'⟩
end
/-- How Open ends on a disk that the call itself made. -/
theorem open_sone {w0 w : World} {c : Nat} {d : DS} {m : Nat} (h : DiskNew w0 w c d m) :
    Calls Tryz.prog 14 #[.pointer (some ⟨c, 0, none⟩)] w fun e w' => ∃ v, e = .returned (.tuple #[v, .int .i64 (SS.open_ d).2.2]) ∧ (∀ s, (SS.open_ d).1 = some s → ∃ x, v = .pointer (some ⟨x, 0, none⟩) ∧ Sone w0 w' x c s (SS.open_ d).2.1 m) ∧ ((SS.open_ d).1 = none → v = .pointer none) ∧
      DiskNew w0 w' c (SS.open_ d).2.1 m ∧ KeepsOff diskT w w' := by
  obtain ⟨hc, hb, rb, h, hr⟩ := h
  refine (open11_any c w d m rb h).mono ?_
  rintro e w' ⟨v, rfl, hs, hn, rb', h1, h2, h3, h4⟩
  have hD : DiskNew w0 w' c (SS.open_ d).2.1 m := .turn hc hb hr h1 h2 h3
  refine ⟨v, rfl, fun s e => ?_, hn, hD, .of_touch h.typed h3⟩
  obtain ⟨x, lg, mb, rfl, hst, a1, a2, a3⟩ := hs s e
  obtain ⟨_, hb', _⟩ := hD
  exact ⟨x, rfl, lg, mb, rb', hst, h1, hb', Nat.le_trans hb.size a1, Nat.le_trans hb.size a2, Nat.le_trans hb.size a3, hc, fun k hk => (h2 k hk).elim (hr k) (Nat.le_trans hb.size)⟩
end Go.Proofs.YtpjpknndfhablaaGreat
namespace Go.Proofs.YtpjpknndfhablaaGreat
namespace Wal
theorem Live.clean {l : LS} {d : DS} {snap : List UInt8} {rs : List (List UInt8)} (h : Live l d snap rs rs.length) : Clean d l.f l.g snap rs :=
  ⟨by rw [h.u]; simp [frames], h.g1, h.g2, h.sl, h.short, by rw [h.file, List.take_length], h.other⟩
def q0 : LS := { f := false, g := 1, n := 0, dead := false }
def e0 : DS := { a := head 1 [], armed := 0 }
theorem new_q : new {} = (some q0, e0, 0) := by rfl
def q1 : LS := (append q0 e0 [97]).1
def e1 : DS := (append q0 e0 [97]).2.1
def e2 : DS := (sync q1 e1).2.1
def q3 : LS := ((open_ e2).1.map (·.l)).getD {}
def e3 : DS := (open_ e2).2.1
def q4 : LS := ((open_ e3).1.map (·.l)).getD {}
def e4 : DS := (open_ e3).2.1
def q5 : LS := (checkpoint q4 e4 [115]).1
def e5 : DS := (checkpoint q4 e4 [115]).2.1
def e6 : DS := (open_ e5).2.1
def q6 : LS := ((open_ e5).1.map (·.l)).getD {}
theorem live0 : Live q0 e0 [] [] 0 ∧ e0.armed = 0 := by
  obtain ⟨l, h1, _, h2, h3⟩ := new_live new_q
  cases h1
  exact ⟨h2, h3⟩
theorem append_q : append q0 e0 [97] = (q1, e1, 0) ∧ Live q1 e1 [] [[97]] 0 ∧ e1.armed = 0 := by
  rcases append_live live0.1 [97] rfl with ⟨h, _⟩ | ⟨h1, h2, h3⟩ | ⟨_, _, _, h, _⟩
  · exfalso
    have : (append q0 e0 [97]).2.2 = 0 := by decide +kernel
    rw [this] at h
    omega
  · exact ⟨Prod.ext rfl (Prod.ext rfl h1), h2, h3 live0.2⟩
  · exact absurd live0.2 h
theorem room_q : room q1 e1 = 65536 ∧ q1.n = 1 := by decide +kernel
theorem sync_q : sync q1 e1 = (q1, e2, 0) ∧ Clean e2 q1.f q1.g [] [[97]] ∧ e2.armed = 0 ∧ e2.dead = false := by
  rcases sync_live append_q.2.1 rfl with ⟨h1, h2, h3, h4⟩ | ⟨_, _, _, h, _⟩
  · exact ⟨Prod.ext h2 (Prod.ext rfl h1), h3.clean, h4 append_q.2.2, h3.dd⟩
  · exact absurd append_q.2.2 h
theorem open_clean {d : DS} {f : Bool} {g : Nat} {snap : List UInt8} {rs : List (List UInt8)} (h : Clean d f g snap rs) (hd : d.dead = false) (ha : d.armed = 0) :
    open_ d = (some ⟨{ f := f, g := g, n := rs.length, dead := false }, snap, rs⟩, (open_ d).2.1, 0) ∧ Clean (open_ d).2.1 f g snap rs ∧ (open_ d).2.1.armed = 0 ∧ (open_ d).2.1.dead = false := by
  rcases open_sits h.sits hd rfl with ⟨_, _, _, _, h0⟩ | ⟨h1, h2, h3, h4, h5⟩
  · exact absurd ha h0
  · exact ⟨Prod.ext h1 (Prod.ext rfl h2), h4, h5 ha, h3⟩
theorem open_q : open_ e2 = (some ⟨q3, [], [[97]]⟩, e3, 0) ∧ Clean e3 q1.f q1.g [] [[97]] ∧ e3.armed = 0 ∧ e3.dead = false := by
  obtain ⟨h1, h2, h3, h4⟩ := open_clean sync_q.2.1 sync_q.2.2.2 sync_q.2.2.1
  refine ⟨?_, h2, h3, h4⟩
  rw [h1]
  have : q3 = { f := q1.f, g := q1.g, n := [([97] : List UInt8)].length, dead := false } := by unfold q3; rw [h1]; rfl
  rw [this]; rfl
theorem size_q : e3.size false = 29 := by decide +kernel
theorem open_q2 : open_ e3 = (some ⟨q4, [], [[97]]⟩, e4, 0) ∧ Live q4 e4 [] [[97]] 1 ∧ e4.armed = 0 := by
  obtain ⟨h1, h2, h3, h4⟩ := open_clean open_q.2.1 open_q.2.2.2 open_q.2.2.1
  have : q4 = { f := q1.f, g := q1.g, n := [([97] : List UInt8)].length, dead := false } := by unfold q4; rw [h1]; rfl
  refine ⟨?_, ?_, h3⟩
  · rw [h1, this]; rfl
  · rw [this]; exact h2.live h4
theorem check_q : checkpoint q4 e4 [115] = (q5, e5, 0) ∧ Live q5 e5 [115] [] 0 ∧ e5.armed = 0 := by
  rcases checkpoint_live open_q2.2.1 [115] rfl with ⟨h, _⟩ | ⟨h1, h2, h3⟩ | ⟨_, _, _, h, _⟩
  · exfalso
    have : (checkpoint q4 e4 [115]).2.2 = 0 := by decide +kernel
    rw [this] at h
    omega
  · exact ⟨Prod.ext rfl (Prod.ext rfl h1), h2, h3 open_q2.2.2⟩
  · exact absurd open_q2.2.2 h
theorem size_q5 : e5.size false = 0 ∧ e5.size true = 21 := by decide +kernel
theorem long_q {s : List UInt8} (hs : 65536 < s.length) : append q5 e5 s = (q5, e5, 101) := long_append check_q.2.1.ld hs
theorem open_q3 : open_ e5 = (some ⟨q6, [115], []⟩, e6, 0) := by
  obtain ⟨h1, h2, h3, h4⟩ := open_clean (check_q.2.1.clean) check_q.2.1.dd check_q.2.2
  have : q6 = { f := q5.f, g := q5.g, n := ([] : List (List UInt8)).length, dead := false } := by unfold q6; rw [h1]; rfl
  rw [h1, this]; rfl
theorem crc_q : crc [49, 50, 51, 52, 53, 54, 55, 56, 57] = 3421780262 := by decide +kernel
end Wal
end Go.Proofs.YtpjpknndfhablaaGreat
namespace Go.Proofs.YtpjpknndfhablaaGreat
namespace FixS
def s0 : SS := { l := Wal.q0, ps := [], turn := 0, dead := false }
theorem new_s : SS.new {} = (some s0, Wal.e0, 0) := by unfold SS.new; rw [Wal.new_q]; rfl
def ps : Sto.Pairs := [([97], []), ([98], [50])]
def C : List Sto.Ch := [⟨true, [97], []⟩, ⟨true, [98], [50]⟩]
def t1 : TS := { was := [], now := [([98], [50])], turn := 0, over := false }
def t2 : TS := { was := [], now := ps, turn := 0, over := false }
theorem put_1 : s0.begin_.put [98] [50] = (t1, 0) := by rfl
theorem put_2 : t1.put [97] [] = (t2, 0) := by rfl
theorem put_3 : t2.put [] [] = (t2, 111) := by rfl
theorem get_t : (Sto.get t2.now [98]).getD [] = [50] ∧ Sto.here t2.now [98] = true := by decide
theorem get_s : (Sto.get s0.ps [98]).getD [] = [] ∧ Sto.here s0.ps [98] = false := by decide
theorem changes_t : Sto.changes t2.was t2.now = C := by show Sto.changes [] ps = C; rw [Sto.changes_nil]; rfl
def E : List UInt8 := [0, 2, 1, 1, 97, 0, 0, 1, 1, 98, 0, 1, 50]
theorem encode_C : Sto.encode C 2 = E := by decide +kernel
theorem does_C : Sto.does [] C = some ps := by decide
def qa : Wal.LS := (Wal.append Wal.q0 Wal.e0 E).1
def ea : DS := (Wal.append Wal.q0 Wal.e0 E).2.1
theorem append_E : Wal.append Wal.q0 Wal.e0 E = (qa, ea, 0) ∧ Wal.Live qa ea [] [E] 0 ∧ ea.armed = 0 := by
  rcases Wal.append_live Wal.live0.1 E rfl with ⟨h, _⟩ | ⟨h1, h2, h3⟩ | ⟨_, _, _, h, _⟩
  · exfalso
    have : (Wal.append Wal.q0 Wal.e0 E).2.2 = 0 := by decide +kernel
    rw [this] at h
    omega
  · exact ⟨Prod.ext rfl (Prod.ext rfl h1), h2, h3 Wal.live0.2⟩
  · exact absurd Wal.live0.2 h
def sa : SS := { l := qa, ps := ps, turn := 1, dead := false }
theorem commit_s : s0.commit t2 Wal.e0 = (sa, ea, 0) := by
  unfold SS.commit
  rw [changes_t]
  rw [if_neg (by decide), if_neg (by decide), if_neg (by decide), if_neg (by decide), if_neg (by rw [encode_C]; decide)]
  show (match Sto.does [] C with | none => (s0, Wal.e0, 113) | some m => s0.taking Wal.e0 C m) = _
  rw [does_C]
  show s0.taking Wal.e0 C ps = _
  unfold SS.taking SS.making
  rw [encode_C]
  have hr : ¬ Wal.room s0.l Wal.e0 < E.length := by decide +kernel
  rw [if_neg hr, if_neg (fun e => e rfl)]
  unfold SS.adding
  show (if (Wal.append Wal.q0 Wal.e0 E).2.2 ≠ 0 then _ else _) = _
  rw [append_E.1, if_neg (fun e => e rfl)]
  rfl
theorem commit_again : sa.commit t2.ends ea = (sa, ea, 114) := by rfl
def eb : DS := (Wal.sync qa ea).2.1
theorem sync_q : Wal.sync qa ea = (qa, eb, 0) ∧ Wal.Clean eb qa.f qa.g [] [E] ∧ eb.armed = 0 ∧ eb.dead = false := by
  rcases Wal.sync_live append_E.2.1 rfl with ⟨h1, h2, h3, h4⟩ | ⟨_, _, _, h, _⟩
  · exact ⟨Prod.ext h2 (Prod.ext rfl h1), h3.clean, h4 append_E.2.2, h3.dd⟩
  · exact absurd append_E.2.2 h
theorem sync_s : sa.sync ea = (sa, eb, 0) := by
  unfold SS.sync
  rw [if_neg (by decide)]
  have e : sa.l = qa := rfl
  rw [e, sync_q.1]
  rfl
theorem told_s : sa.ps.length = 2 ∧ Sto.size sa.ps = 3 := by decide
theorem replay_E : SS.opened ⟨qa, [], [E]⟩ = some ps := by
  have hd : Sto.decode E 2 512 = some C := by
    rw [← encode_C]
    exact Sto.decode_encode (by decide) (by decide) (by decide) (fun c hc => by simp [C] at hc; rcases hc with rfl | rfl <;> exact ⟨by decide, by decide, by decide⟩) (by unfold Sto.RiseC C; simp; decide)
  have h1 : SS.rec1 [] E = some ps := by unfold SS.rec1; rw [hd]; exact does_C
  have h2 := SS.replay_next (rs := [E]) (l := []) (m := []) (j := 0) (r := E) rfl rfl
  rw [h1] at h2
  unfold SS.opened SS.snapPairs
  rw [if_pos rfl]
  have h3 : List.take (0 + 1) [E] = [E] := rfl
  rw [h3] at h2
  simp only [Option.bind_some]
  exact h2
theorem open_s : ∃ u ec, SS.open_ eb = (some u, ec, 0) ∧ u.ps = ps := by
  obtain ⟨h1, _⟩ := Wal.open_clean sync_q.2.1 sync_q.2.2.2 sync_q.2.2.1
  unfold SS.open_
  rw [h1]
  have h2 : ∀ l, SS.opened ⟨l, [], [E]⟩ = some ps := fun l => replay_E
  simp only [h2]
  exact ⟨_, _, rfl, rfl⟩
theorem scan_s : Sto.scan ps [] 9 = ps := by decide
theorem qa_few : qa.n ≤ 4611686018427387904 ∧ qa.g ≤ 4611686018427387904 := by
  have := append_E.2.1
  exact ⟨by rw [this.n]; decide, this.g2⟩
end FixS
end Go.Proofs.YtpjpknndfhablaaGreat
namespace Go.Proofs.YtpjpknndfhablaaGreat
open Go.RowKit
set_option maxHeartbeats 2000000 in
theorem rframe_any (s : List UInt8) (w : World) (hs : s.length ≤ 1048576) :
    Calls Tryz.prog 92 #[.string ⟨s.toArray⟩] w fun e w' => e = .returned (.string ⟨(Wal.frame s).toArray⟩) ∧ Below w.heap.size w w' := by
  obtain ⟨A, hA⟩ : ∃ A, Sha.big s.length 4 = A := ⟨_, rfl⟩
  obtain ⟨c, hc⟩ : ∃ c, Wal.crc s = c := ⟨_, rfl⟩
  have hcl := Wal.crc_lt s
  rw [hc] at hcl
  obtain ⟨B, hB⟩ : ∃ B, Sha.big c 4 = B := ⟨_, rfl⟩
  have hAl : A.length = 4 := by rw [← hA]; exact Sha.big_length _ _
  have hBl : B.length = 4 := by rw [← hB]; exact Sha.big_length _ _
  have HF : Hid (Wal.frame s = A ++ B ++ s) := Lib.hid (by unfold Wal.frame; rw [hA, hc, hB])
  have HA := Lib.hid hA
  have HB := Lib.hid hB
  have HC := Lib.hid hc
  clear hA hB hc
  have hap1 := bytes_append A B
  have hap2 := bytes_append (A ++ B) s
  go_enter Tryz.func92, Tryz.ntmps92
  go_wp2_with fail
  refine (rbytes_any s.length 4 w (by decide) (by omega)).mono ?_
  rw [HA.out]
  rintro e w1 ⟨rfl, b1⟩
  have B1 := Lib.hid b1
  clear b1
  go_wp2_with fail
  refine (rwsum_any s w1 (by omega)).mono ?_
  rw [HC.out]
  rintro e w2 ⟨rfl, rfl⟩
  go_wp2_with fail
  refine (rbytes_any c 4 w1 (by decide) (by omega)).mono ?_
  rw [HB.out]
  rintro e w2 ⟨rfl, b2⟩
  have B2 := Lib.hid (bthen B1.out b2)
  clear b2
  go_wp2_with fail
  go_ret
  exact ⟨by rw [HF.out, List.append_assoc]; rfl, B2.out⟩
set_option maxHeartbeats 4000000 in
set_option maxRecDepth 100000 in
theorem rwhole_any (l : List UInt8) (p most : Nat) (w : World) (hl : l.length ≤ 2097152) (hp : p ≤ 4194304) (hm : most ≤ 1048576) :
    Calls Tryz.prog 103 #[.string ⟨l.toArray⟩, .int .i64 p, .int .i64 most] w fun e w' => e = .returned (.tuple #[.string ⟨(Wal.whole l p most).1.toArray⟩, .bool (Wal.whole l p most).2]) ∧ Below w.heap.size w w' := by
  by_cases h1 : l.length < p + 8
  · have HW := Lib.hid (Wal.whole_short (most := most) h1)
    go_enter Tryz.func103, Tryz.ntmps103
    go_wp2
    go_ret2
    exact ⟨by rw [HW.out]; rfl, Below.refl _ _⟩
  · obtain ⟨l4, hl4⟩ : ∃ l4, (l.drop p).take 4 = l4 := ⟨_, rfl⟩
    have hl4L : l4.length = 4 := by rw [← hl4]; simp; omega
    obtain ⟨n, hn⟩ : ∃ n, Sha.val l4 = n := ⟨_, rfl⟩
    have hnl : n < 4294967296 := by
      have h := Sha.val_lt l4
      rw [hl4L, hn] at h
      exact h
    have hext1 := ext_take l p 4
    rw [hl4] at hext1
    have HN := Lib.hid hn
    have HL4 := Lib.hid hl4L
    by_cases h2 : most < n
    · have HW : Hid (Wal.whole l p most = ([], false)) := Lib.hid (by unfold Wal.whole; rw [if_neg h1, hl4, hn, if_pos (.inl h2)])
      clear hn hl4 hl4L
      go_enter Tryz.func103, Tryz.ntmps103
      go_wp2_with fail
      refine (rvalue_any l4 w (by rw [HL4.out]; decide)).mono ?_
      rw [HN.out]
      rintro e w1 ⟨rfl, rfl⟩
      go_wp2
      go_ret2
      exact ⟨by rw [HW.out]; rfl, Below.refl _ _⟩
    by_cases h3 : l.length - p - 8 < n
    · have HW : Hid (Wal.whole l p most = ([], false)) := Lib.hid (by unfold Wal.whole; rw [if_neg h1, hl4, hn, if_pos (.inr h3)])
      clear hn hl4 hl4L
      go_enter Tryz.func103, Tryz.ntmps103
      go_wp2_with fail
      refine (rvalue_any l4 w (by rw [HL4.out]; decide)).mono ?_
      rw [HN.out]
      rintro e w1 ⟨rfl, rfl⟩
      go_wp2
      go_ret2
      exact ⟨by rw [HW.out]; rfl, Below.refl _ _⟩
    · obtain ⟨s, hs⟩ : ∃ s, (l.drop (p + 8)).take n = s := ⟨_, rfl⟩
      obtain ⟨c4, hc4⟩ : ∃ c4, (l.drop (p + 4)).take 4 = c4 := ⟨_, rfl⟩
      have hc4L : c4.length = 4 := by rw [← hc4]; simp; omega
      have hsl : s.length ≤ 2097152 := by rw [← hs]; simp; omega
      obtain ⟨c, hc⟩ : ∃ c, Wal.crc s = c := ⟨_, rfl⟩
      obtain ⟨v, hv⟩ : ∃ v, Sha.val c4 = v := ⟨_, rfl⟩
      have hcl := Wal.crc_lt s
      rw [hc] at hcl
      have hext2 := ext_take l (p + 8) n
      rw [hs] at hext2
      have hext3 := ext_take l (p + 4) 4
      rw [hc4, show p + 4 + 4 = p + 8 by omega] at hext3
      have HW : Hid (Wal.whole l p most = (s, c == v)) := Lib.hid (by unfold Wal.whole; rw [if_neg h1, hl4, hn, if_neg (by omega), hs, hc4, hc, hv])
      have HC := Lib.hid hc
      have HV := Lib.hid hv
      have HC4 := Lib.hid hc4L
      have HEQ : Hid (((v : Int) == (c : Int)) = (c == v)) := Lib.hid (by rw [Bool.eq_iff_iff]; simp; omega)
      clear hn hl4 hl4L hs hc4 hc4L hc hv
      have hmx : Tryz.prog.follows .mixedOrders = true := by kernel_rfl
      go_enter Tryz.func103, Tryz.ntmps103
      go_wp2_with fail
      refine (rvalue_any l4 w (by rw [HL4.out]; decide)).mono ?_
      rw [HN.out]
      rintro e w1 ⟨rfl, rfl⟩
      go_wp2_with fail
      have q1 : ∀ W, Calls Tryz.prog 144 #[.string ⟨s.toArray⟩] W fun e w' => e = .returned (.int .u32 c) ∧ w' = W := fun W => by
        have := rwsum_any s W (by omega)
        rw [HC.out] at this
        exact this.mono fun _ _ h => ⟨h.1, h.2.symm⟩
      have q2 : ∀ W, Calls Tryz.prog 151 #[.string ⟨c4.toArray⟩] W fun e w' => e = .returned (.int .u64 v) ∧ w' = W := fun W => by
        have := rvalue_any c4 W (by rw [HC4.out]; decide)
        rw [HV.out] at this
        exact this.mono fun _ _ h => ⟨h.1, h.2.symm⟩
      have Q1 := Lib.hid q1
      have Q2 := Lib.hid q2
      clear q1 q2
      refine (Q2.out w).mono ?_
      rintro e w1 ⟨rfl, rfl⟩
      go_wp2_with fail
      refine (Q1.out _).mono ?_
      rintro e w1 ⟨rfl, rfl⟩
      go_wp2
      go_ret2
      exact ⟨by rw [HW.out, ← HEQ.out]; rfl, Below.refl _ _⟩
set_option maxHeartbeats 4000000 in
set_option maxRecDepth 100000 in
theorem rcounts_any (l : List UInt8) (w : World) (hl : l.length ≤ 2097152) :
    Calls Tryz.prog 102 #[.string ⟨l.toArray⟩] w fun e w' => e = .returned (.tuple #[.int .u64 (Wal.counts l).1, .string ⟨(Wal.counts l).2.1.toArray⟩, .int .i64 (Wal.counts l).2.2]) ∧ Below w.heap.size w w' := by
  by_cases h12 : l.length < 12
  · have HW : Hid (Wal.counts l = (0, [], 0)) := Lib.hid (by unfold Wal.counts; rw [if_pos (.inl h12)])
    go_enter Tryz.func102, Tryz.ntmps102
    go_wp2_with fail
    go_ret3
    exact ⟨by rw [HW.out]; rfl, Below.refl _ _⟩
  obtain ⟨b, hb⟩ : ∃ b, decide (l.take 4 = Wal.magic) = b := ⟨_, rfl⟩
  have hext0 := bytes_extract l 4
  have hne : (l.take 4 == [83, 78, 76, 49]) = b := by
    rw [← hb, ← magic_eq]
  obtain ⟨m4, hm4⟩ : ∃ m4, l.take 4 = m4 := ⟨_, rfl⟩
  rw [hm4] at hext0 hne
  have HM4 := Lib.hid hm4
  clear hm4
  cases b with
  | false =>
    have HW : Hid (Wal.counts l = (0, [], 0)) := Lib.hid (by unfold Wal.counts; rw [if_pos (.inr (of_decide_eq_false hb))])
    clear hb
    go_enter Tryz.func102, Tryz.ntmps102
    go_wp2_with fail
    go_ret3
    exact ⟨by rw [HW.out]; rfl, Below.refl _ _⟩
  | true =>
    have hmag := of_decide_eq_true hb
    obtain ⟨l8, hl8⟩ : ∃ l8, (l.drop 4).take 8 = l8 := ⟨_, rfl⟩
    have hl8L : l8.length = 8 := by rw [← hl8]; simp; omega
    obtain ⟨n, hn⟩ : ∃ n, Sha.val l8 = n := ⟨_, rfl⟩
    have hnl : n < 18446744073709551616 := by
      have h := Sha.val_lt l8
      rw [hl8L, hn] at h
      exact h
    have hext := ext_take l 4 8
    rw [hl8] at hext
    obtain ⟨s, ok, hs⟩ : ∃ s ok, Wal.whole l 12 524288 = (s, ok) := ⟨_, _, rfl⟩
    have hsl : s.length ≤ 2097152 := by
      have h1 : (Wal.whole l 12 524288).1.length ≤ l.length := by
        unfold Wal.whole
        split
        · simp
        · split
          · simp
          · simp; omega
      rw [hs] at h1
      exact Nat.le_trans h1 hl
    have HWH : Hid (∀ W, Calls Tryz.prog 103 #[.string ⟨l.toArray⟩, .int .i64 12, .int .i64 524288] W fun e w' => e = .returned (.tuple #[.string ⟨s.toArray⟩, .bool ok]) ∧ Below W.heap.size W w') := Lib.hid fun W => by
      have := rwhole_any l 12 524288 W hl (by decide) (by decide)
      rw [hs] at this
      exact this
    have HOF : Hid (∀ W, Calls Tryz.prog 151 #[.string ⟨l8.toArray⟩] W fun e w' => e = .returned (.int .u64 n) ∧ W = w') := Lib.hid fun W => by
      have := rvalue_any l8 W (by omega)
      rw [hn] at this
      exact this
    have hcount : Wal.counts l = if ok = false ∨ 4611686018427387904 < n then (0, [], 0) else (n, s, 20 + s.length) := by
      unfold Wal.counts
      rw [if_neg (by simp [hmag]; omega), hl8, hn, hs]
    have h3 : ok = false ∨ (ok = true ∧ 4611686018427387904 < n) ∨ (ok = true ∧ ¬ 4611686018427387904 < n) := by cases ok <;> simp <;> omega
    have HW0 : (ok = false ∨ 4611686018427387904 < n) → Hid (Wal.counts l = (0, [], 0)) := fun h => Lib.hid (by rw [hcount, if_pos h])
    have HW1 : ok = true → ¬ 4611686018427387904 < n → Hid (Wal.counts l = (n, s, 20 + s.length)) := fun h h' => Lib.hid (by rw [hcount, if_neg (by simp [h, h'])])
    clear hb hmag hl8 hl8L hn hs hcount
    rcases h3 with rfl | ⟨rfl, h4⟩ | ⟨rfl, h4⟩
    · have HW := HW0 (.inl rfl)
      clear HW0 HW1
      go_enter Tryz.func102, Tryz.ntmps102
      go_wp2_with fail
      refine (HOF.out w).mono ?_
      rintro e w1 ⟨rfl, rfl⟩
      go_wp2_with fail
      refine (HWH.out w).mono ?_
      rintro e w1 ⟨rfl, b1⟩
      have B1 := Lib.hid b1
      clear b1
      go_wp2_with fail
      go_ret3
      exact ⟨by rw [HW.out]; rfl, B1.out⟩
    · have HW := HW0 (.inr h4)
      clear HW0 HW1
      go_enter Tryz.func102, Tryz.ntmps102
      go_wp2_with fail
      refine (HOF.out w).mono ?_
      rintro e w1 ⟨rfl, rfl⟩
      go_wp2_with fail
      refine (HWH.out w).mono ?_
      rintro e w1 ⟨rfl, b1⟩
      have B1 := Lib.hid b1
      clear b1
      go_wp2_with fail
      go_ret3
      exact ⟨by rw [HW.out]; rfl, B1.out⟩
    · have HW := HW1 rfl h4
      clear HW0 HW1
      go_enter Tryz.func102, Tryz.ntmps102
      go_wp2_with fail
      refine (HOF.out w).mono ?_
      rintro e w1 ⟨rfl, rfl⟩
      go_wp2_with fail
      refine (HWH.out w).mono ?_
      rintro e w1 ⟨rfl, b1⟩
      have B1 := Lib.hid b1
      clear b1
      go_wp2_with fail
      go_ret3
      exact ⟨by rw [HW.out]; simp, B1.out⟩
end Go.Proofs.YtpjpknndfhablaaGreat
namespace Go.Proofs.YtpjpknndfhablaaGreat
open Go.RowKit
def rlogBlock (y : Nat) (l : Wal.LS) : Obj :=
  .cells #[.pointer (some ⟨y, 0, none⟩), .int .i64 (DS.fi l.f), .int .u64 l.g, .int .i64 l.n, .bool l.dead] 155 (0, 0)
/-- A log of the document lies in block x, over the disk in block y. -/
def RlogAt (w : World) (x y : Nat) (l : Wal.LS) : Prop := w.heap[x]? = some (rlogBlock y l)
theorem RlogAt.cells {w : World} {x y : Nat} {l : Wal.LS} (h : RlogAt w x y l) : w.cell? ⟨x, 0, none⟩ = some (.pointer (some ⟨y, 0, none⟩)) ∧ w.cell? ⟨x, 1, none⟩ = some (.int .i64 (DS.fi l.f)) ∧ w.cell? ⟨x, 2, none⟩ = some (.int .u64 l.g) ∧ w.cell? ⟨x, 3, none⟩ = some (.int .i64 l.n) ∧ w.cell? ⟨x, 4, none⟩ = some (.bool l.dead) ∧ (∀ i, w.frozen? ⟨x, i, none⟩ = false) ∧ x < w.heap.size :=
  ⟨cell_of h rfl, cell_of h rfl, cell_of h rfl, cell_of h rfl, cell_of h rfl, free_of h, heap_lt h⟩
theorem RlogAt.touch {S : Nat → Prop} {w w' : World} {x y : Nat} {l : Wal.LS} (h : RlogAt w x y l) (ht : Touch S w w') (hS : ¬ S x) : RlogAt w' x y l := (ht.block x (heap_lt h) hS).trans h
theorem RlogAt.below {w w' : World} {x y : Nat} {l : Wal.LS} (h : RlogAt w x y l) (hb : Below w.heap.size w w') : RlogAt w' x y l := stays h hb
theorem RlogAt.apart {w : World} {x y : Nat} {l : Wal.LS} (h : RlogAt w x y l) {y' : Nat} {d : DS} {ub : Option Nat} (hd : RefAt w y' d ub) : ¬ own2 y' ub x := by
  obtain ⟨_, us, hr, hrb⟩ := hd
  rintro (rfl | ho)
  · have := hr.blk; rw [h] at this; simp [refBlock, rlogBlock] at this
  · rw [← hrb] at ho
    rcases hr.own.2 with ⟨hv, _⟩ | ⟨g, cap, cur, hv, _, hg, _⟩
    · rw [hv] at ho; cases ho
    · rw [hv] at ho
      have e1 : g = x := Option.some.inj ho
      subst e1
      rw [h] at hg; simp [rlogBlock] at hg
theorem RlogAt.setDead {w : World} {x y : Nat} {l : Wal.LS} (h : RlogAt w x y l) : RlogAt (w.setCell ⟨x, 4, none⟩ (.bool true)) x y { l with dead := true } := by
  have := heap_set (i := 4) (.bool true) h
  simpa [RlogAt, rlogBlock] using this
theorem RlogAt.setN {w : World} {x y : Nat} {l : Wal.LS} (h : RlogAt w x y l) (n : Nat) : RlogAt (w.setCell ⟨x, 3, none⟩ (.int .i64 n)) x y { l with n := n } := by
  have := heap_set (i := 3) (.int .i64 n) h
  simpa [RlogAt, rlogBlock] using this
theorem RefAt.setLog {w : World} {y : Nat} {d : DS} {ub : Option Nat} (h : RefAt w y d ub) {x : Nat} {l : Wal.LS} (hl : RlogAt w x y l) (i : Nat) (v : Value) : RefAt (w.setCell ⟨x, i, none⟩ v) y d ub :=
  h.touch ((Touch.refl (· = x) w).setCell _ (fun _ => rfl)) (fun _ hk e => hl.apart h (e ▸ hk))
def ownR (y x : Nat) : Nat → Prop := fun k => k = y ∨ k = x
/-- What a piece of work on a log of the document leaves. -/
structure RWorked (x y : Nat) (l' : Wal.LS) (d' : DS) (ub : Option Nat) (w w' : World) : Prop where
  log : RlogAt w' x y l'
  disk : ∃ ub', RefAt w' y d' ub' ∧ Newer w ub ub'
  touch : Touch (ownR y x) w w'
theorem RWorked.stay {x y : Nat} {l : Wal.LS} {d : DS} {ub : Option Nat} {w w' : World} (hl : RlogAt w x y l) (h : RefAt w y d ub) (hb : Below w.heap.size w w') : RWorked x y l d ub w w' :=
  ⟨hl.below hb, ⟨ub, h.below hb, Newer.refl _ _⟩, Touch.of_below hb⟩
theorem RWorked.disked {x y : Nat} {l : Wal.LS} {d E : DS} {ub ub' : Option Nat} {w w1 w' : World} (hl : RlogAt w1 x y l) (h0 : RefAt w1 y d ub) (hb : Below w.heap.size w w1) (hd : RefAt w' y E ub') (hn : Newer w1 ub ub') (ht : Touch (· = y) w1 w') : RWorked x y l E ub w w' :=
  ⟨hl.touch ht (fun e => hl.apart h0 (.inl e)), ⟨ub', hd, hn.later hb.size⟩, Touch.trans (Touch.of_below hb) ht (fun _ _ h => .inl h)⟩
theorem RWorked.died {x y : Nat} {l : Wal.LS} {d : DS} {ub : Option Nat} {w w' : World} (h : RWorked x y l d ub w w') : RWorked x y { l with dead := true } d ub w (w'.setCell ⟨x, 4, none⟩ (.bool true)) := by
  obtain ⟨ub', h1, h2⟩ := h.disk
  exact ⟨h.log.setDead, ⟨ub', h1.setLog h.log 4 _, h2⟩, h.touch.setCell _ (fun _ => .inr rfl)⟩
theorem RWorked.counted {x y : Nat} {l : Wal.LS} {d : DS} {ub : Option Nat} {w w' : World} (h : RWorked x y l d ub w w') (n : Nat) : RWorked x y { l with n := n } d ub w (w'.setCell ⟨x, 3, none⟩ (.int .i64 n)) := by
  obtain ⟨ub', h1, h2⟩ := h.disk
  exact ⟨h.log.setN n, ⟨ub', h1.setLog h.log 3 _, h2⟩, h.touch.setCell _ (fun _ => .inr rfl)⟩
theorem RWorked.drew {x y : Nat} {l : Wal.LS} {d : DS} {ub : Option Nat} {w w' : World} (h : RWorked x y l d ub w w') : RWorked x y l d ub w w'.drew := by
  obtain ⟨ub', h1, h2⟩ := h.disk
  exact ⟨h.log.below ((Below.refl _ _).drew), ⟨ub', h1.below ((Below.refl _ _).drew), h2⟩, h.touch.drew⟩
theorem rsize_at (y : Nat) (w : World) (d : DS) (ub : Option Nat) (f : Bool) (h : RefAt w y d ub) : Calls Tryz.prog 89 #[.pointer (some ⟨y, 0, none⟩), .int .i64 (DS.fi f)] w fun e w' => e = .returned (.int .i64 (d.size f)) ∧ w = w' := by
  obtain ⟨ok, us, hr, _⟩ := h
  have := rsize_any y w d us (DS.fi f) hr ok
  have e : d.sizeI (DS.fi f) = (d.size f : Int) := by simp [DS.sizeI, DS.fileNo_of]
  rwa [e] at this
set_option maxHeartbeats 1000000 in
theorem rover_any (x y : Nat) (w : World) (l : Wal.LS) (hl : RlogAt w x y l) :
    Calls Tryz.prog 161 #[.pointer (some ⟨x, 0, none⟩)] w fun e w' => e = .returned (.int .i64 2) ∧ w' = w.setCell ⟨x, 4, none⟩ (.bool true) := by
  obtain ⟨_, _, _, _, c4, cf, _⟩ := hl.cells
  have cf4 := cf 4
  clear hl
  go_enter Tryz.func161, Tryz.ntmps161
  go_wp2
  go_ret
  exact ⟨rfl, rfl⟩
set_option maxHeartbeats 2000000 in
theorem rsyncL_any (x y : Nat) (w : World) (l : Wal.LS) (d : DS) (ub : Option Nat) (hl : RlogAt w x y l) (h : RefAt w y d ub) :
    Calls Tryz.prog 129 #[.pointer (some ⟨x, 0, none⟩)] w fun e w' => e = .returned (.int .i64 (Wal.sync l d).2.2) ∧ RWorked x y (Wal.sync l d).1 (Wal.sync l d).2.1 ub w w' := by
  obtain ⟨c0, _, _, _, c4, _, _⟩ := hl.cells
  have HL := Lib.hid hl
  have HD := Lib.hid h
  clear hl h
  cases hdd : l.dead with
  | true =>
    rw [hdd] at c4
    have HX : Hid (Wal.sync l d = (l, d, 2)) := Lib.hid (by unfold Wal.sync; rw [if_pos hdd])
    go_enter Tryz.func129, Tryz.ntmps129
    go_wp2_with fail
    go_ret
    rw [HX.out]
    exact ⟨rfl, RWorked.stay HL.out HD.out (Below.refl _ _)⟩
  | false =>
    rw [hdd] at c4
    obtain ⟨q, hq⟩ : ∃ q, d.sync.2 = q := ⟨_, rfl⟩
    have HQ := Lib.hid hq
    have HDD := Lib.hid hdd
    clear hq hdd
    go_enter Tryz.func129, Tryz.ntmps129
    go_wp2_with fail
    refine (rsync_any y _ d ub HD.out).mono ?_
    rw [HQ.out]
    rintro e w1 ⟨rfl, ub', hd1, hn1, ht1⟩
    have hw := RWorked.disked HL.out HD.out (Below.refl _ _) hd1 hn1 ht1
    have HW := Lib.hid hw
    clear hd1 hn1 ht1 hw
    by_cases hq0 : q = 0
    · subst hq0
      have HX : Hid (Wal.sync l d = (l, d.sync.1, 0)) := Lib.hid (by unfold Wal.sync; rw [if_neg (by simp [HDD.out]), if_neg (by simp [HQ.out])])
      go_wp2_with fail
      go_ret
      rw [HX.out]
      exact ⟨rfl, HW.out⟩
    · have HX : Hid (Wal.sync l d = ({ l with dead := true }, d.sync.1, 2)) := Lib.hid (by unfold Wal.sync; rw [if_neg (by simp [HDD.out]), if_pos (by rw [HQ.out]; exact hq0)])
      go_wp2_with fail
      refine (rover_any x y _ l HW.out.log).mono ?_
      rintro e w2 ⟨rfl, rfl⟩
      go_wp2_with fail
      go_ret
      rw [HX.out]
      exact ⟨rfl, HW.out.died⟩
set_option maxHeartbeats 2000000 in
set_option maxRecDepth 100000 in
theorem rroomL_any (x y : Nat) (w : World) (l : Wal.LS) (d : DS) (ub : Option Nat) (hl : RlogAt w x y l) (h : RefAt w y d ub) :
    Calls Tryz.prog 164 #[.pointer (some ⟨x, 0, none⟩)] w fun e w' => e = .returned (.int .i64 (Wal.room l d)) ∧ Below w.heap.size w w' := by
  obtain ⟨c0, c1, _⟩ := hl.cells
  have hz := h.1.base_len' l.f
  obtain ⟨z, hzz⟩ : ∃ z, d.size l.f = z := ⟨_, rfl⟩
  rw [hzz] at hz
  have HZ := Lib.hid hzz
  have HD := Lib.hid h
  have HB : Hid (∀ w' : World, Below w.heap.size w w' → (Below w.heap.size w w' ∧ w'.cell? ⟨x, 0, none⟩ = some (.pointer (some ⟨y, 0, none⟩)) ∧ w'.cell? ⟨x, 1, none⟩ = some (.int .i64 (DS.fi l.f)))) := fun w' hb => ⟨hb, cell_later hb c0, cell_later hb c1⟩
  have hw1 : IntKind.i64.wrap (1048576 - (z : Int)) = 1048576 - (z : Int) := IntWalk.i64_in _ (by omega)
  have hw2 : IntKind.i64.wrap (1048576 - (z : Int) - 8) = 1048576 - (z : Int) - 8 := IntWalk.i64_in _ (by omega)
  have hcase : (¬ (1048576 - (z : Int) - 8 < 65536) ∧ ¬ (1048576 - (z : Int) - 8 < 0)) ∨ (1048576 - (z : Int) - 8 < 65536 ∧ ¬ (1048576 - (z : Int) - 8 < 0)) ∨ (1048576 - (z : Int) - 8 < 0) := by omega
  clear hl h hzz
  rcases hcase with ⟨k1, k2⟩ | ⟨k1, k2⟩ | k2
  all_goals go_enter Tryz.func164, Tryz.ntmps164
  all_goals go_wp2
  all_goals go_region_held3 (fun w' => Below w.heap.size w w' ∧ w'.cell? ⟨x, 0, none⟩ = some (.pointer (some ⟨y, 0, none⟩)) ∧ w'.cell? ⟨x, 1, none⟩ = some (.int .i64 (DS.fi l.f)))
    (first | assumption | exact HB.out _ (Below.refl _ _).drew | exact HB.out _ (bthen (by assumption : Below w.heap.size w _ ∧ _).1 (by assumption)))
    (first | (go_at_call 89; refine (rsize_at y _ d ub l.f (HD.out.below (by assumption : Below w.heap.size w _ ∧ _).1)).mono ?_; rw [HZ.out]; rintro e w' ⟨rfl, rfl⟩))
  all_goals rename_i hheld
  all_goals go_wp2
  all_goals go_ret
  all_goals exact ⟨ret_int (by unfold Wal.room; rw [HZ.out]; omega), hheld.1⟩
end Go.Proofs.YtpjpknndfhablaaGreat
namespace Go.Proofs.YtpjpknndfhablaaGreat
open Go.RowKit
set_option maxHeartbeats 4000000 in
set_option maxRecDepth 100000 in
theorem rappendL_any (x y : Nat) (w : World) (l : Wal.LS) (d : DS) (ub : Option Nat) (s : List UInt8) (hl : RlogAt w x y l) (h : RefAt w y d ub) (hs : s.length ≤ 140737488355328) (hln : l.n ≤ 4611686018427387904) :
    Calls Tryz.prog 165 #[.pointer (some ⟨x, 0, none⟩), .string ⟨s.toArray⟩] w fun e w' => e = .returned (.int .i64 (Wal.append l d s).2.2) ∧ RWorked x y (Wal.append l d s).1 (Wal.append l d s).2.1 ub w w' := by
  obtain ⟨c0, c1, _, _, c4, _, _⟩ := hl.cells
  have HL := Lib.hid hl
  have HD := Lib.hid h
  have hz := h.1.base_len' l.f
  obtain ⟨z, hzz⟩ : ∃ z, d.size l.f = z := ⟨_, rfl⟩
  rw [hzz] at hz
  have HZ := Lib.hid hzz
  clear hl h hzz
  cases hdd : l.dead with
  | true =>
    rw [hdd] at c4
    have HX : Hid (Wal.append l d s = (l, d, 2)) := Lib.hid (by unfold Wal.append; rw [if_pos hdd])
    go_enter Tryz.func165, Tryz.ntmps165
    go_wp2_with fail
    go_ret
    rw [HX.out]
    exact ⟨rfl, RWorked.stay HL.out HD.out (Below.refl _ _)⟩
  | false =>
    rw [hdd] at c4
    have HDD := Lib.hid hdd
    clear hdd
    by_cases hlong : 65536 < s.length
    · have HX : Hid (Wal.append l d s = (l, d, 101)) := Lib.hid (by unfold Wal.append; rw [if_neg (by simp [HDD.out]), if_pos hlong])
      go_enter Tryz.func165, Tryz.ntmps165
      go_wp2_with fail
      go_ret
      rw [HX.out]
      exact ⟨rfl, RWorked.stay HL.out HD.out (Below.refl _ _)⟩
    · have HB : Hid (∀ w' : World, Below w.heap.size w w' → (Below w.heap.size w w' ∧ w'.cell? ⟨x, 0, none⟩ = some (.pointer (some ⟨y, 0, none⟩)) ∧ w'.cell? ⟨x, 1, none⟩ = some (.int .i64 (DS.fi l.f)))) := fun w' hb => ⟨hb, cell_later hb c0, cell_later hb c1⟩
      have hw1 : IntKind.i64.wrap ((z : Int) + 8) = (z : Int) + 8 := IntWalk.i64_in _ (by omega)
      have hw2 : IntKind.i64.wrap ((z : Int) + 8 + s.length) = (z : Int) + 8 + s.length := IntWalk.i64_in _ (by omega)
      go_enter Tryz.func165, Tryz.ntmps165
      go_wp2_with fail
      go_region_held3 (fun w' => Below w.heap.size w w' ∧ w'.cell? ⟨x, 0, none⟩ = some (.pointer (some ⟨y, 0, none⟩)) ∧ w'.cell? ⟨x, 1, none⟩ = some (.int .i64 (DS.fi l.f)))
        (first | assumption | exact HB.out _ (Below.refl _ _).drew | exact HB.out _ (bthen (by assumption : Below w.heap.size w _ ∧ _).1 (by assumption)))
        (first | (go_at_call 89; refine (rsize_at y _ d ub l.f (HD.out.below (by assumption : Below w.heap.size w _ ∧ _).1)).mono ?_; rw [HZ.out]; rintro e w' ⟨rfl, rfl⟩))
      rename_i hheld
      generalize w.drew = w1 at hheld ⊢
      try rw [hw1]
      try rw [hw2]
      have B1 := Lib.hid hheld.1
      have hS0 := hheld.2
      clear hheld c0 c1 c4 hw1 hw2
      by_cases hfull : 1048576 < z + 8 + s.length
      · have HX : Hid (Wal.append l d s = (l, d, 102)) := Lib.hid (by unfold Wal.append; rw [if_neg (by simp [HDD.out]), if_neg hlong, HZ.out, if_pos hfull])
        go_wp2_with fail
        go_ret
        rw [HX.out]
        exact ⟨rfl, RWorked.stay HL.out HD.out B1.out⟩
      · obtain ⟨B, hB⟩ : ∃ B, Wal.frame s = B := ⟨_, rfl⟩
        have hBl : B.length = 8 + s.length := by rw [← hB]; exact Wal.frame_length _
        have HBB := Lib.hid hB
        obtain ⟨n, hn⟩ : ∃ n, (d.append (DS.fi l.f) B).2 = n := ⟨_, rfl⟩
        have HN := Lib.hid hn
        clear hn hB
        have HL1 := Lib.hid (HL.out.below B1.out)
        have HD1 := Lib.hid (HD.out.below B1.out)
        obtain ⟨e0, e1⟩ := hS0
        go_wp2_with fail
        have hS1 : w1.drew.cell? ⟨x, 0, none⟩ = some (.pointer (some ⟨y, 0, none⟩)) ∧ w1.drew.cell? ⟨x, 1, none⟩ = some (.int .i64 (DS.fi l.f)) := ⟨e0, e1⟩
        refine wp_region_heldL (S := fun w' => w'.cell? ⟨x, 0, none⟩ = some (.pointer (some ⟨y, 0, none⟩)) ∧ w'.cell? ⟨x, 1, none⟩ = some (.int .i64 (DS.fi l.f))) (by kernel_rfl) ?_
        refine wpAnyH_takeL (i := 0) (v := ?_) rfl (by kernel_rfl) (by kernel_rfl) (by kernel_rfl) (fun _ _ _ h => h) ?_ (by assumption) ?_; rotate_left; focus (first | (refine Or.inr ⟨by rfl, ?_⟩; with_reducible rfl) | (refine Or.inl ⟨by rfl, ?_⟩; (intro w hSw; (try dsimp only at hSw); go_simp); try with_reducible rfl))
        try simp only [Act.put, List.setIfInBounds_toArray, List.set_cons_zero, List.set_cons_succ]
        refine wpAnyH_takeL (i := 1) (v := ?_) rfl (by kernel_rfl) (by kernel_rfl) (by kernel_rfl) (fun _ _ _ h => h) ?_ (by assumption) ?_; rotate_left; focus (first | (refine Or.inr ⟨by rfl, ?_⟩; with_reducible rfl) | (refine Or.inl ⟨by rfl, ?_⟩; (intro w hSw; (try dsimp only at hSw); go_simp); try with_reducible rfl))
        try simp only [Act.put, List.setIfInBounds_toArray, List.set_cons_zero, List.set_cons_succ]
        refine wpAnyH_takeL (i := 2) (v := ?_) rfl (by kernel_rfl) (by kernel_rfl) (by kernel_rfl) (fun _ _ _ h => h) ?_ (by assumption) ?_; rotate_left; focus (first | (refine Or.inr ⟨by rfl, ?_⟩; with_reducible rfl) | (refine Or.inl ⟨by rfl, ?_⟩; (intro w hSw; (try dsimp only at hSw); go_simp); try with_reducible rfl))
        try simp only [Act.put, List.setIfInBounds_toArray, List.set_cons_zero, List.set_cons_succ]
        refine wpAnyH_takeL (i := 3) (v := ?_) rfl (by kernel_rfl) (by kernel_rfl) (by kernel_rfl) (fun _ _ _ h => h) ?_ (by assumption) ?_; rotate_left; focus (first | (refine Or.inr ⟨by rfl, ?_⟩; with_reducible rfl) | (refine Or.inl ⟨by rfl, ?_⟩; (intro w hSw; (try dsimp only at hSw); go_simp); try with_reducible rfl))
        try simp only [Act.put, List.setIfInBounds_toArray, List.set_cons_zero, List.set_cons_succ]
        refine wpAnyH_takeL (i := 4) (v := ?_) rfl (by kernel_rfl) (by kernel_rfl) (by kernel_rfl) (fun _ _ _ h => h) ?_ (by assumption) ?_; rotate_left; focus (first | (refine Or.inr ⟨by rfl, ?_⟩; with_reducible rfl) | (refine Or.inl ⟨by rfl, ?_⟩; (intro w hSw; (try dsimp only at hSw); go_simp); try with_reducible rfl))
        try simp only [Act.put, List.setIfInBounds_toArray, List.set_cons_zero, List.set_cons_succ]
        refine wpAnyH_takeL (i := 5) (v := ?_) rfl (by kernel_rfl) (by kernel_rfl) (by kernel_rfl) (fun _ _ _ h => h) ?_ (by assumption) ?_; rotate_left; focus (first | (refine Or.inr ⟨by rfl, ?_⟩; with_reducible rfl) | (refine Or.inl ⟨by rfl, ?_⟩; (intro w hSw; (try dsimp only at hSw); go_simp); try with_reducible rfl))
        try simp only [Act.put, List.setIfInBounds_toArray, List.set_cons_zero, List.set_cons_succ]
        refine wpAnyH_takeL (i := 6) (v := ?_) rfl (by kernel_rfl) (by kernel_rfl) (by kernel_rfl) (fun _ _ _ h => h) ?_ (by assumption) ?_; rotate_left; focus (first | (refine Or.inr ⟨by rfl, ?_⟩; with_reducible rfl) | (refine Or.inl ⟨by rfl, ?_⟩; (intro w hSw; (try dsimp only at hSw); go_simp); try with_reducible rfl))
        try simp only [Act.put, List.setIfInBounds_toArray, List.set_cons_zero, List.set_cons_succ]
        refine wpAnyH_takeL (i := 7) (v := ?_) rfl (by kernel_rfl) (by kernel_rfl) (by kernel_rfl) (fun _ _ _ h => h) ?_ (by assumption) ?_; rotate_left; focus (first | (refine Or.inr ⟨by rfl, ?_⟩; with_reducible rfl) | (refine Or.inl ⟨by rfl, ?_⟩; (intro w hSw; (try dsimp only at hSw); go_simp); try with_reducible rfl))
        try simp only [Act.put, List.setIfInBounds_toArray, List.set_cons_zero, List.set_cons_succ]
        refine wpAnyH_takeL (i := 8) (v := ?_) rfl (by kernel_rfl) (by kernel_rfl) (by kernel_rfl) (fun _ _ _ h => h) ?_ (by assumption) ?_; rotate_left; focus (first | (refine Or.inr ⟨by rfl, ?_⟩; with_reducible rfl) | (refine Or.inl ⟨by rfl, ?_⟩; (intro w hSw; (try dsimp only at hSw); go_simp); try with_reducible rfl))
        try simp only [Act.put, List.setIfInBounds_toArray, List.set_cons_zero, List.set_cons_succ]
        refine wpAnyH_oneL (i := 9) rfl (by kernel_rfl) ?_
        intro K hK
        rw [if_pos (by rfl)]
        go_simp
        go_at_call 92
        refine (rframe_any s _ (by omega)).mono ?_
        rw [HBB.out]
        rintro e w2 ⟨rfl, b2⟩
        have B2 := Lib.hid (bthen ((Below.refl _ w1).drew) b2)
        have hS2 : w2.cell? ⟨x, 0, none⟩ = some (.pointer (some ⟨y, 0, none⟩)) ∧ w2.cell? ⟨x, 1, none⟩ = some (.int .i64 (DS.fi l.f)) := ⟨cell_later b2 hS1.1, cell_later b2 hS1.2⟩
        clear b2
        refine hK _ _ hS2 ?_
        clear hK K
        try simp only [Act.put, List.setIfInBounds_toArray, List.set_cons_zero, List.set_cons_succ]
        refine wpAnyH_oneL (i := 10) rfl (by kernel_rfl) ?_
        intro K hK
        rw [if_pos (by rfl)]
        go_simp
        go_at_call 90
        refine (rappend_any y _ d ub (DS.fi l.f) B (HD1.out.below B2.out) (by omega)).mono ?_
        rw [HN.out]
        rintro e w3 ⟨rfl, ub', hd3, hn3, ht3⟩
        have hne : ¬ x = y := fun e => (HL1.out.below B2.out).apart (HD1.out.below B2.out) (.inl e)
        have hS3 : w3.cell? ⟨x, 0, none⟩ = some (.pointer (some ⟨y, 0, none⟩)) ∧ w3.cell? ⟨x, 1, none⟩ = some (.int .i64 (DS.fi l.f)) := ⟨cell_touch hS2.1 ht3 hne, cell_touch hS2.2 ht3 hne⟩
        have HW := Lib.hid (RWorked.disked (w := w) (HL1.out.below B2.out) (HD1.out.below B2.out) (bthen B1.out B2.out) hd3 hn3 ht3)
        clear hd3 hn3 ht3
        refine hK _ _ hS3 ?_
        clear hK K
        try simp only [Act.put, List.setIfInBounds_toArray, List.set_cons_zero, List.set_cons_succ]
        by_cases hn0 : n = 0
        · subst hn0
          have HX : Hid (Wal.append l d s = ({ l with n := l.n + 1 }, (d.append (DS.fi l.f) B).1, 0)) := Lib.hid (by unfold Wal.append; rw [if_neg (by simp [HDD.out]), if_neg hlong, HZ.out, if_neg hfull, HBB.out, HN.out]; simp)
          refine wpAnyH_takeL (i := 11) (v := ?_) rfl (by kernel_rfl) (by kernel_rfl) (by kernel_rfl) (fun _ _ _ h => h) ?_ (by assumption) ?_; rotate_left; focus (first | (refine Or.inr ⟨by rfl, ?_⟩; with_reducible rfl) | (refine Or.inl ⟨by rfl, ?_⟩; (intro w hSw; (try dsimp only at hSw); go_simp); try with_reducible rfl))
          try simp only [Act.put, List.setIfInBounds_toArray, List.set_cons_zero, List.set_cons_succ]
          refine wpAnyH_done (by kernel_rfl) ?_ _
          obtain ⟨_, _, _, e3, _, ef, _⟩ := HW.out.log.cells
          have f3 := ef 3
          clear hS3 hS2 hS1 e0 e1 ef
          go_wp2_with fail
          go_ret
          rw [HX.out]
          exact ⟨rfl, HW.out.counted (l.n + 1)⟩
        · have HX : Hid (Wal.append l d s = ({ l with dead := true }, (d.append (DS.fi l.f) B).1, 2)) := Lib.hid (by unfold Wal.append; rw [if_neg (by simp [HDD.out]), if_neg hlong, HZ.out, if_neg hfull, HBB.out, if_pos (by rw [HN.out]; exact hn0)])
          refine wpAnyH_takeL (i := 11) (v := ?_) rfl (by kernel_rfl) (by kernel_rfl) (by kernel_rfl) (fun _ _ _ h => h) ?_ (by assumption) ?_; rotate_left; focus (first | (refine Or.inr ⟨by rfl, ?_⟩; with_reducible rfl) | (refine Or.inl ⟨by rfl, ?_⟩; (intro w hSw; (try dsimp only at hSw); go_simp); try with_reducible rfl))
          try simp only [Act.put, List.setIfInBounds_toArray, List.set_cons_zero, List.set_cons_succ]
          refine wpAnyH_done (by kernel_rfl) ?_ _
          clear hS3 hS2 hS1 e0 e1
          go_wp2_with fail
          refine (rover_any x y _ l HW.out.log).mono ?_
          rintro e w4 ⟨rfl, rfl⟩
          go_wp2_with fail
          go_ret
          rw [HX.out]
          exact ⟨rfl, HW.out.died⟩
end Go.Proofs.YtpjpknndfhablaaGreat

/- Whatever lives, of bulk at most 1048576: StoreLives answers true, and each argument reads afterwards as it read before. -/
import Derived.Deep.CutRange
import Derived.JoinedCond
import Derived.Deep.CondSized
import Derived.Test.YtpjpknndfhablaaGreatK20
import Derived.Test.YtpjpknndfhablaaGreatK21
import Derived.Test.YtpjpknndfhablaaGreatK22
import Derived.Test.YtpjpknndfhablaaGreatK24
namespace Go.Proofs.YtpjpknndfhablaaGreat
open Go.RowKit
theorem Sc.aside {w w' : World} {F S : Nat → Prop} {x c : Nat} {s : SS} {d : DS} {m : Nat} {ts : List (Nat × TS)} (h : Sc w F x c s d m ts) (ht : Touch S w w') (hS : ∀ k, S k → ¬ F k) : Sc w' F x c s d m ts := by
  obtain ⟨lg, mb, rb, rows, rfl, h2, h3⟩ := h
  have off : ∀ k, Foot11 x lg c mb rb rows k → ¬ S k := fun k e hs => hS k hs e
  refine ⟨lg, mb, rb, rows, rfl, ⟨h2.store.touch ht (off x (.inr (.inl rfl))) (off lg (.inl (.inr rfl))) (off mb (.inr (.inr (.inl rfl)))), h2.disk.touch ht (fun k hk => off k (.inl (.inl hk))), fun i r hi => ⟨?_, (h2.txs i r hi).2⟩, h2.apart⟩, h3⟩
  have hm := List.mem_of_getElem? hi
  exact (h2.txs i r hi).1.touch ht (off _ (.inr (.inr (.inr ⟨r, hm, .inl rfl⟩)))) (off _ (.inr (.inr (.inr ⟨r, hm, .inr (.inr rfl)⟩)))) (fun b hb => off b (.inr (.inr (.inr ⟨r, hm, .inr (.inl hb)⟩))))
theorem Sone.sc' {w0 w : World} {x c : Nat} {s : SS} {d : DS} {m : Nat} (h : Sone w0 w x c s d m) : ∃ F, Sc w F x c s d m [] ∧ Since w0 w F := by
  obtain ⟨lg, mb, rb, h1, h2, h3, h4, h5, h6, h7, h8⟩ := h
  refine ⟨_, ⟨lg, mb, rb, [], rfl, ⟨h1, h2, fun i r hi => (by cases hi), fun i j r r' hi => (by cases hi)⟩, rfl⟩, h3, fun k hk => ?_⟩
  rcases hk with ((rfl | hk) | rfl) | rfl | rfl | ⟨r, hr, _⟩
  · exact h7
  · exact h8 k hk
  · exact h5
  · exact h4
  · exact h6
  · cases hr
/-- A disk whose power is back, under a store that is no more used: what Open leaves. -/
theorem open_sc {w : World} {F : Nat → Prop} {x c : Nat} {s : SS} {d : DS} {m : Nat} {ts : List (Nat × TS)} (h : Sc w F x c s d m ts) :
    Calls Tryz.prog 14 #[.pointer (some ⟨c, 0, none⟩)] w fun e w' => ∃ v, e = .returned (.tuple #[v, .int .i64 (SS.open_ d).2.2]) ∧
      (∀ u, (SS.open_ d).1 = some u → ∃ x' F', v = .pointer (some ⟨x', 0, none⟩) ∧ Sc w' F' x' c u (SS.open_ d).2.1 m [] ∧ STurn w w' F F' ∧ ∃ lg mb, StoAt w' x lg c mb s) := by
  obtain ⟨lg, mb, rb, rows, rfl, h2, h3⟩ := h
  refine (open11_any c w d m rb h2.disk).mono ?_
  rintro e w' ⟨v, rfl, hs, _, rb', a1, a2, a3, _⟩
  refine ⟨v, rfl, fun u e => ?_⟩
  obtain ⟨x', lg', mb', rfl, hst, b1, b2, b3⟩ := hs u e
  refine ⟨x', _, rfl, ⟨lg', mb', rb', [], rfl, ⟨hst, a1, fun i r hi => (by cases hi), fun i j r r' hi => (by cases hi)⟩, rfl⟩, ⟨a3.mono (fun _ _ e => .inl (.inl e)), fun k hk => ?_⟩, lg, mb, h2.store.touch a3 (fun e => (h2.store.apart h2.disk).1 (.inl e)) (h2.store.log.apart h2.disk) (fun e => (h2.store.apart h2.disk).2.1 (.inl e))⟩
  rcases hk with ((rfl | hk) | rfl) | rfl | rfl | ⟨r, hr, _⟩
  · exact .inl (.inl (.inl (.inl rfl)))
  · rcases a2 k hk with e | e
    · exact .inl (.inl (.inl (.inr e)))
    · exact .inr e
  · exact .inr b2
  · exact .inr b1
  · exact .inr b3
  · cases hr
/-- Is the disk's power gone? -/
theorem ddead_sc {w : World} {F : Nat → Prop} {x c : Nat} {s : SS} {d : DS} {m : Nat} {ts : List (Nat × TS)} (h : Sc w F x c s d m ts) : Calls Tryz.prog 30 #[.pointer (some ⟨c, 0, none⟩)] w fun e w' => e = .returned (.bool d.dead) ∧ w' = w := by
  obtain ⟨lg, mb, rb, rows, _, h2, _⟩ := h
  exact (dead_any c w d m rb h2.disk).mono fun _ _ h => ⟨h.1, h.2.symm⟩
theorem Kept.aside {w w' : World} {F S : Nat → Prop} {k : Nat} {o : Obj} (h : Kept w F k o) (ht : Touch S w w') (hS : ¬ S k) : Kept w' F k o := ⟨(ht.block k (heap_lt h.blk) hS).trans h.blk, h.off⟩
theorem KeptP.aside {w w' : World} {F S : Nat → Prop} {v : Value} {l : Sto.Pairs} (h : KeptP w F v l) (ht : Touch S w w') (hS : ∀ g, v.ownBlock = some g → ¬ S g) : KeptP w' F v l := ⟨h.pairs.touch ht hS, fun g e => ⟨(h.off g e).1, Nat.lt_of_lt_of_le (h.off g e).2 ht.size⟩⟩
theorem Tryz.pairsInfo : (Tryz.prog.info? 42).map (fun i => (i.zero, i.size, i.bytes)) = some (some (.slice none 0 0), 1, 24) := by kernel_rfl
/-- Rows of pairs, in a row of the call's own. -/
structure MayAt (w : World) (F : Nat → Prop) (base : Nat) (vm : Value) (ml : List (Sto.Pairs × Value)) : Prop where
  own : w.ownsRow base 42 1 vm ml.length (ml.map (·.2))
  off : ∀ g, vm.ownBlock = some g → ¬ F g ∧ g < w.heap.size
  rows : ∀ p ∈ ml, KeptP w F p.2 p.1
  apart : ∀ p ∈ ml, ∀ g, p.2.ownBlock = some g → vm.ownBlock ≠ some g
  pos : 0 < ml.length
section
variable {w w' : World} {F F' : Nat → Prop} {base : Nat} {vm : Value} {ml : List (Sto.Pairs × Value)}
theorem MayAt.turn (h : MayAt w F base vm ml) (ht : STurn w w' F F') : MayAt w' F' base vm ml :=
  ⟨own_touch h.own ht.1 (fun k hk => (h.off k hk).1), fun g hg => ⟨fun e => by rcases ht.2 g e with e | e; exact (h.off g hg).1 e; have := (h.off g hg).2; omega, Nat.lt_of_lt_of_le (h.off g hg).2 ht.1.size⟩, fun p hp => (h.rows p hp).turn ht, h.apart, h.pos⟩
theorem MayAt.below (h : MayAt w F base vm ml) (hb : Below w.heap.size w w') : MayAt w' F base vm ml := h.turn (STurn.below hb)
theorem MayAt.slice (h : MayAt w F base vm ml) : ∃ g cap cur, vm = .slice (some ⟨g, 0, none⟩) ml.length cap ∧ base ≤ g ∧ w.heap[g]? = some (.cells cur 42 (0, 0)) ∧ cur.toList.take ml.length = ml.map (·.2) := by
  have hp := h.pos
  rcases h.own.2 with ⟨_, h0⟩ | ⟨g, cap, cur, hv, hb, hg, _, _, _, ht⟩
  · omega
  · exact ⟨g, cap, cur, hv, hb, hg, by simpa using ht⟩
theorem MayAt.base_le (h : MayAt w F base vm ml) : base ≤ w.heap.size := by
  obtain ⟨g, _, _, _, hb, hg, _⟩ := h.slice
  have := heap_lt hg
  omega
theorem MayAt.cell (h : MayAt w F base vm ml) {i : Nat} {p : Sto.Pairs × Value} (hi : ml[i]? = some p) {g : Nat} {n cap : Nat} (hv : vm = .slice (some ⟨g, 0, none⟩) n cap) : w.cell? ⟨g, i, none⟩ = some p.2 := by
  obtain ⟨g', cap', cur, hv', _, hg, ht⟩ := h.slice
  rw [hv] at hv'
  cases hv'
  refine cell_of hg ?_
  have h1 : (ml.map (·.2))[i]? = some p.2 := by rw [List.getElem?_map, hi]; rfl
  rw [← ht, List.getElem?_take] at h1
  split at h1
  · simpa using h1
  · cases h1
/-- One more row. -/
theorem MayAt.push (h : MayAt w F base vm ml) {q : Sto.Pairs} {u : Value} (hq : KeptP w F u q) (hqv : ∀ g, u.ownBlock = some g → vm.ownBlock ≠ some g) {vm' : Value}
    (ho : w'.ownsRow base 42 1 vm' (ml.length + 1) (ml.map (·.2) ++ [u])) (hg : w.grownBy w' vm.ownBlock) (hv : vm'.ownBlock = vm.ownBlock ∨ vm'.ownBlock = some w.heap.size) (hF : ∀ k, F k → k < w.heap.size) :
    MayAt w' F base vm' (ml ++ [(q, u)]) ∧ Touch (fun k => vm.ownBlock = some k) w w' := by
  have ht := touch_of_grown hg
  have keep : ∀ (v : Value) (l : Sto.Pairs), KeptP w F v l → (∀ g, v.ownBlock = some g → vm.ownBlock ≠ some g) → KeptP w' F v l := fun v l a b => ⟨a.pairs.touch ht (fun k hk e => b k hk e), fun g e => ⟨(a.off g e).1, Nat.lt_of_lt_of_le (a.off g e).2 ht.size⟩⟩
  have new : ∀ (v : Value) (l : Sto.Pairs), KeptP w F v l → (∀ g, v.ownBlock = some g → vm.ownBlock ≠ some g) → ∀ g, v.ownBlock = some g → vm'.ownBlock ≠ some g := fun v l a b g e => by
    rcases hv with hv | hv
    · rw [hv]; exact b g e
    · rw [hv]
      intro e'
      have := Option.some.inj e'
      have := (a.off g e).2
      omega
  refine ⟨⟨?_, fun g e => ?_, fun p hp => ?_, fun p hp => ?_, by simp⟩, ht⟩
  · rw [List.length_append, List.map_append]
    exact ho
  · have hlt : g < w'.heap.size := by
      rcases ho.2 with ⟨hn, _⟩ | ⟨g', cap, cur, hn, _, hb, _⟩
      · rw [hn] at e; cases e
      · rw [hn] at e; cases e; exact heap_lt hb
    rcases hv with hv | hv
    · rw [hv] at e; exact ⟨(h.off g e).1, hlt⟩
    · rw [hv] at e
      cases e
      exact ⟨fun e => by have := hF _ e; omega, hlt⟩
  · rcases List.mem_append.1 hp with hp | hp
    · exact keep _ _ (h.rows p hp) (h.apart p hp)
    · simp only [List.mem_singleton] at hp
      subst hp
      exact keep _ _ hq hqv
  · rcases List.mem_append.1 hp with hp | hp
    · exact new _ _ (h.rows p hp) (h.apart p hp)
    · simp only [List.mem_singleton] at hp
      subst hp
      exact new _ _ hq hqv
end
/-- The row is made anew, of one row. -/
theorem may_new {w : World} {F : Nat → Prop} {base : Nat} (hb : base ≤ w.heap.size) {q : Sto.Pairs} {u : Value} (hq : KeptP w F u q) (hF : ∀ k, F k → k < w.heap.size) :
    MayAt (w.alloc (.cells #[u] 42)) F base (.slice (some ⟨w.heap.size, 0, none⟩) 1 1) [(q, u)] := by
  have hbb := balloc w (.cells #[u] 42)
  refine ⟨⟨rfl, .inr ⟨w.heap.size, 1, _, rfl, hb, heap_new w _, Nat.le_refl _, by decide, rfl, rfl⟩⟩, fun g e => ?_, fun p hp => ?_, fun p hp g e => ?_, by simp⟩
  · have e1 : w.heap.size = g := Option.some.inj e
    subst e1
    exact ⟨fun e => by have := hF _ e; omega, heap_lt (heap_new w _)⟩
  · simp only [List.mem_singleton] at hp
    subst hp
    exact hq.below hbb
  · simp only [List.mem_singleton] at hp
    subst hp
    intro e'
    have h1 := (hq.off g e).2
    have e1 : w.heap.size = g := Option.some.inj e'
    omega
theorem Sc.push {w w' : World} {F : Nat → Prop} {base : Nat} {vm : Value} {ml : List (Sto.Pairs × Value)} {x c : Nat} {s : SS} {d : DS} {m : Nat} {ts : List (Nat × TS)} (h : Sc w F x c s d m ts) (hm : MayAt w F base vm ml) (ht : Touch (fun k => vm.ownBlock = some k) w w') : Sc w' F x c s d m ts := h.aside ht (fun k hk => (hm.off k hk).1)
theorem Since.push {w0 w w' : World} {F : Nat → Prop} {vm : Value} {ml : List (Sto.Pairs × Value)} (h : Since w0 w F) (hm : MayAt w F w0.heap.size vm ml) (ht : Touch (fun k => vm.ownBlock = some k) w w') : Since w0 w' F :=
  ⟨h.old.trans (ht.below h.old.size fun k hk e => by
    obtain ⟨g, cap, cur, hv, hb, _⟩ := hm.slice
    rw [hv] at e
    have e1 : g = k := Option.some.inj e
    omega), h.low⟩
end Go.Proofs.YtpjpknndfhablaaGreat
namespace Go.Proofs.YtpjpknndfhablaaGreat
open Go.RowKit
set_option maxHeartbeats 2000000 in
set_option maxRecDepth 100000 in
theorem among11_any (w : World) (F : Nat → Prop) (base : Nat) (va vm : Value) (q : Sto.Pairs) (ml : List (Sto.Pairs × Value)) (hv : PairsAt w va q) (hm : MayAt w F base vm ml) (hl : ml.length ≤ 4611686018427387904) (hmem : q ∈ ml.map (·.1)) :
    Calls Tryz.prog 33 #[va, vm] w fun e w' => e = .returned (.bool true) ∧ Below w.heap.size w w' := by
  have HV := Lib.hid hv
  have HM := Lib.hid hm
  obtain ⟨g, cap, cur, hvm, _, _, _⟩ := hm.slice
  have HVM := Lib.hid hvm
  subst hvm
  clear hv hm
  go_enter Tryz.func33, Tryz.ntmps33
  go_wp2
  go_loopw [5] (fun i wr => ∃ j : Nat, i = .int .i64 j ∧ j ≤ ml.length ∧ q ∉ (ml.map (·.1)).take j ∧ Below w.heap.size w wr) (fun i _ => ml.length - (intOf i).toNat)
  case atStart => exact ⟨0, rfl, Nat.zero_le _, by simp, Below.refl _ _⟩
  case round =>
    obtain ⟨j, rfl, hj, hno, hb⟩ := hrel
    have HB := Lib.hid hb
    have HNO := Lib.hid hno
    clear hb hno
    by_cases hlt : j < ml.length
    · obtain ⟨y, hy⟩ : ∃ y, ml[j]? = some y := ⟨_, List.getElem?_eq_getElem hlt⟩
      have hcell := (HM.out.below HB.out).cell hy rfl
      have HP := Lib.hid ((HM.out.below HB.out).rows y (List.mem_of_getElem? hy)).pairs
      have HVW := Lib.hid (HV.out.below HB.out)
      obtain ⟨yq, yv⟩ := y
      simp only at hcell HP
      have HY : Hid ((ml.map (·.1))[j]? = some yq) := Lib.hid (by rw [List.getElem?_map, hy]; rfl)
      clear hy
      obtain ⟨bb, hbb⟩ : ∃ bb, decide (q = yq) = bb := ⟨_, rfl⟩
      have HQ := Lib.hid hbb
      clear hbb
      go_wp2_with fail
      refine (rsame11_any va yv q yq wr HVW.out HP.out).mono ?_
      rw [HQ.out]
      rintro e w2 ⟨rfl, hb2⟩
      have HB2 := Lib.hid (bthen HB.out hb2)
      clear hb2
      cases bb with
      | true =>
        go_wp2
        go_ret
        exact ⟨rfl, HB2.out⟩
      | false =>
        go_wp2
        go_roundw
        case rel =>
          refine ⟨j + 1, by go_num, by omega, ?_, HB2.out⟩
          rw [List.take_add_one, HY.out]
          simp only [Option.toList_some, List.mem_append, List.mem_singleton, not_or]
          exact ⟨HNO.out, of_decide_eq_false HQ.out⟩
        case measure => simp [intOf]; omega
    · exfalso
      have : j = ml.length := by omega
      subst this
      have := HNO.out
      rw [List.take_of_length_le (by simp)] at this
      exact this hmem
end Go.Proofs.YtpjpknndfhablaaGreat
namespace Go.Proofs.YtpjpknndfhablaaGreat
open Go.RowKit
/-- What stands in the outer loop. -/
structure LivesRelS (w wr : World) (c x j : Nat) : Prop where
  out : ∃ F s d M, Sc wr F x c s d M [] ∧ Since w wr F ∧ SS.Held s d [s.ps] ∧ d.armed = 0 ∧ M ≤ 1 ∧ s.turn = 0 ∧ s.l.g ≤ 1 + j * 4194304
/-- .. and in the inner one. -/
structure DeedsRelS (w wr : World) (c x n k G : Nat) (N : Int) (B : Nat) (life : Array Value) (vm : Value) : Prop where
  out : ∃ F s d M ts ml, Sc wr F x c s d M ts ∧ Since w wr F ∧ MayAt wr F w.heap.size vm ml ∧ Kept wr F B (.cells life 66 (0, 0)) ∧ vm.ownBlock ≠ some B ∧ w.heap.size ≤ B ∧
    SS.Held s d (ml.map (·.1)) ∧ s.ps ∈ ml.map (·.1) ∧ (d.armed = 0 ∨ (k = n ∧ 0 < N)) ∧ M ≤ 1 + 3 * k ∧ s.turn ≤ k ∧ s.l.g ≤ G + 2 * k ∧ ml.length ≤ k + 1
theorem mod_true (th : Int) : (th == 1 || th == 2) = true → th = 1 ∨ th = 2 := by
  intro h
  simpa using h
set_option maxHeartbeats 8000000 in
set_option maxRecDepth 100000 in
theorem storeLives_any (w : World) (ao : Option Addr) (ca : Nat) (ls : List LifeS) (hL : LivesS w ao ls) :
    Calls Tryz.prog 5 #[.slice ao ls.length ca] w fun e w' => e = .returned (.bool true) ∧ Below w.heap.size w w' := by
  have HL := Lib.hid hL
  have hlen := hL.len
  clear hL
  go_enter Tryz.func5, Tryz.ntmps5
  go_wp2_with fail
  refine (laid11_any w).mono ?_
  rintro e w1 ⟨c, x, rfl, h1⟩
  obtain ⟨F1, hs1, hi1⟩ := h1.sc'
  have HST : Hid (LivesRelS w w1 c x 0) := Lib.hid ⟨F1, FixS.s0, Wal.e0, 1, hs1, hi1, SS.held_first, Wal.live0.2, Nat.le_refl _, rfl, by decide⟩
  clear h1 hs1 hi1
  go_wp2_with fail
  go_loopw [4, 5] (fun xv i wr => ∃ (j x : Nat), i = .int .i64 j ∧ xv = .pointer (some ⟨x, 0, none⟩) ∧ j ≤ ls.length ∧ LivesRelS w wr c x j) (fun _ i _ => ls.length - (intOf i).toNat)
  case atStart => exact ⟨0, x, rfl, rfl, Nat.zero_le _, HST.out⟩
  case round =>
    clear HST
    obtain ⟨j, x, rfl, rfl, hj, F, s, d, M, hsc, hsi, hheld, har, hM, hturn, hg⟩ := hrel
    have HO := Lib.hid hsc
    have HI := Lib.hid hsi
    have HH := Lib.hid hheld
    have HAR := Lib.hid har
    obtain ⟨G, hG⟩ : ∃ G, 1 + j * 4194304 = G := ⟨_, rfl⟩
    obtain ⟨G2, hG2⟩ : ∃ G, 1 + (j + 1) * 4194304 = G := ⟨_, rfl⟩
    have hGl : G ≤ 4611686018400000000 := by omega
    have HGG : Hid (G + 4194304 = G2) := Lib.hid (by omega)
    have HG2 := Lib.hid hG2
    rw [hG] at hg
    clear hsc hsi hheld har hG hG2
    by_cases hlt : j < ls.length
    · obtain ⟨life, hlife⟩ : ∃ o, ls[j]? = some o := ⟨_, List.getElem?_eq_getElem hlt⟩
      obtain ⟨sc, N, K⟩ := life
      obtain ⟨b, off, so, cap, rfl, hbl, k0, k1, k2, hds⟩ := HL.out.cell j _ hlife
      obtain ⟨f2, f4⟩ := HL.out.fits _ (List.mem_of_getElem? hlife)
      simp only at k0 k1 k2 hds f2 f4
      have HDS := Lib.hid hds
      have hsl := hds.len
      have hold := HI.out.old
      have q0 := (hold.cell (p := ⟨b, off + j * 3, none⟩) hbl).trans k0
      have q1 := (hold.cell (p := ⟨b, off + j * 3 + 1, none⟩) hbl).trans k1
      have q2 := (hold.cell (p := ⟨b, off + j * 3 + 2, none⟩) hbl).trans k2
      clear hlife k0 k1 k2 hold hds
      obtain ⟨KK, hKK⟩ : ∃ x, max 0 K = x := ⟨_, rfl⟩
      have HKB : Hid (0 ≤ KK ∧ KK ≤ 9223372036854775807) := Lib.hid (by omega)
      have HKE := Lib.hid hKK
      clear hKK
      go_wp2_with fail
      obtain ⟨B6, hB6⟩ : ∃ B, wr.heap.size = B := ⟨_, rfl⟩
      obtain ⟨life, hli⟩ : ∃ l : Array Value, #[.slice so sc.length cap, .int .i64 N, .int .i64 K] = l := ⟨_, rfl⟩
      obtain ⟨wa, hwa⟩ : ∃ W, wr.alloc (.cells #[.slice so sc.length cap, .int .i64 N, .int .i64 K] 66) = W := ⟨_, rfl⟩
      have hn7 := heap_new wr (.cells #[.slice so sc.length cap, .int .i64 N, .int .i64 K] 66)
      have hba := balloc wr (.cells #[.slice so sc.length cap, .int .i64 N, .int .i64 K] 66)
      rw [hwa, hB6] at hn7 ⊢
      rw [hwa] at hba
      rw [hli] at hn7
      have HLI := Lib.hid hli
      have HA := Lib.hid (HO.out.below hba)
      have HIA := Lib.hid (HI.out.below hba)
      have HKA : Hid (Kept wa F B6 (.cells life 66 (0, 0))) := Lib.hid ⟨hn7, fun e => by have := HO.out.lt _ e; omega⟩
      have HB6 : Hid (w.heap.size ≤ B6) := Lib.hid (by have := HI.out.old.size; omega)
      clear hB6 hwa hn7 hba q0 q1 q2 HO HI hli
      refine (scan_sc HA.out [] 99999 (by decide) (by decide)).mono ?_
      rintro e wb ⟨v, rfl, pb, fb, bb⟩
      rw [show Sto.scan s.ps [] (99999 : Int).toNat = s.ps from scan_fits HH.out.fits] at pb
      obtain ⟨av0, cv0, rfl, _⟩ := pb.read
      have HB := Lib.hid (HA.out.below bb)
      have HIB := Lib.hid (HIA.out.below bb)
      have HKB := Lib.hid (HKA.out.below bb)
      have HVB : Hid (KeptP wb F (.slice av0 s.ps.length cv0) s.ps) := Lib.hid (by
        exact ⟨pb, fun g hg => ⟨fun e => by have h1 := HA.out.lt g e; have h2 := fb g hg; omega, pb.blk hg⟩⟩)
      clear pb fb bb HA HIA HKA
      go_wp2_with fail
      obtain ⟨wc, hwc⟩ : ∃ W, wb.alloc (.cells #[.slice av0 s.ps.length cv0] 42) = W := ⟨_, rfl⟩
      have hbc := balloc wb (.cells #[.slice av0 s.ps.length cv0] 42)
      have hmc := may_new (base := w.heap.size) (by have := HIB.out.old.size; omega) HVB.out HB.out.lt
      rw [hwc] at hbc hmc ⊢
      have hlt6 := heap_lt HKB.out.blk
      have HDR : Hid (DeedsRelS w wc c x sc.length 0 G N B6 life (.slice (some ⟨wb.heap.size, 0, none⟩) 1 1)) := Lib.hid
        (by
          refine ⟨F, s, d, M, [], [(s.ps, .slice av0 s.ps.length cv0)], HB.out.below hbc, HIB.out.below hbc, hmc, HKB.out.below hbc, ?_, HB6.out, HH.out, ?_, .inl HAR.out, ?_, ?_, ?_, Nat.le_refl _⟩
          · intro e
            have e1 : wb.heap.size = B6 := Option.some.inj e
            exact Nat.lt_irrefl _ (e1 ▸ hlt6)
          · exact List.mem_cons_self ..
          · exact hM
          · exact Nat.le_of_eq hturn
          · exact hg)
      clear hwc hbc hmc hlt6 HB HIB HKB HVB HH HAR
      go_loopw [7, 8] (fun vm i wr => ∃ k : Nat, i = .int .i64 k ∧ k ≤ sc.length ∧ DeedsRelS w wr c x sc.length k G N B6 life vm) (fun _ i _ => sc.length - (intOf i).toNat)
      case atStart => exact ⟨0, rfl, Nat.zero_le _, HDR.out⟩
      case round =>
        clear HDR
        obtain ⟨k, rfl, hk, F, s, d, M, ts, ml, hsc, hsi, hmay, hkept, hne, _, hheld, hin, har, hM, hturn, hg, hml⟩ := hrel
        obtain ⟨gm, cm, _, hvm, _⟩ := hmay.slice
        subst hvm
        have HO := Lib.hid hsc
        have HI := Lib.hid hsi
        have HM := Lib.hid hmay
        have HK := Lib.hid hkept
        have HNE := Lib.hid hne
        have HH := Lib.hid hheld
        have HIN := Lib.hid hin
        have HAR := Lib.hid har
        clear hsc hsi hmay hkept hne hheld hin har
        have hlf := HK.out.blk
        rw [← HLI.out] at hlf
        have c60 := cell_of (i := 0) hlf rfl
        have c61 := cell_of (i := 1) hlf rfl
        have c62 := cell_of (i := 2) hlf rfl
        clear hlf
        by_cases hlt : k < sc.length
        · obtain ⟨⟨cs, th⟩, hdd⟩ : ∃ o, sc[k]? = some o := ⟨_, List.getElem?_eq_getElem hlt⟩
          obtain ⟨b2, off2, so2, cap2, rfl, hbl2, k0, k1, hcs⟩ := HDS.out.cell k _ hdd
          simp only at k0 k1 hcs
          have HCS := Lib.hid hcs
          have K0 := Lib.hid k0
          have K1 := Lib.hid k1
          clear hdd k0 k1 hcs
          obtain ⟨lb, hlb⟩ : ∃ lb : Bool, ((k : Int) == (sc.length : Int) - 1) = lb := ⟨_, rfl⟩
          have HLB := Lib.hid hlb
          go_upto_region 13 with fail
          try rw [hlb]
          clear hlb
          go_cut [63] from 35 to 104 (fun v wx => v = .bool false ∧ ∃ (d1 : DS) (F1 : Nat → Prop), Sc wx F1 x c s d1 M ts ∧ STurn wr wx F F1 ∧ SS.Held s d1 (ml.map (·.1)) ∧ (d1.armed = 0 ∨ (k + 1 = sc.length ∧ 0 < N)))
          case first =>
            have hzero : d.armed = 0 := HAR.out.resolve_right (by omega)
            have HDD := Lib.hid HH.out.dd
            cases lb with
            | true =>
              have hl : k + 1 = sc.length := by have := HLB.out; simp at this; omega
              by_cases hn : 0 < N
              · go_wp2_with fail
                rw [HKE.out]
                refine (arm_sc HO.out N KK f2 HKB.out.2).mono ?_
                rw [arm_fine HDD.out (Int.le_of_lt hn) HKB.out.1]
                rintro e we ⟨rfl, F1, h1, t1⟩
                go_wp2
                go_meet
                case rel => exact ⟨rfl, _, F1, h1, t1, HH.out.arm _ _, .inr ⟨hl, hn⟩⟩
              · go_wp2
                go_meet
                case rel => exact ⟨rfl, d, F, HO.out, STurn.refl _ _, HH.out, .inl hzero⟩
            | false =>
              go_wp2
              go_meet
              case rel => exact ⟨rfl, d, F, HO.out, STurn.refl _ _, HH.out, .inl hzero⟩
          case rest =>
            obtain ⟨rfl, d1, F1, g1, g2, g3, g4⟩ := hcut
            have HO1 := Lib.hid g1
            have HI1 := Lib.hid (HI.out.turn g2)
            have HM1 := Lib.hid (HM.out.turn g2)
            have HK1 := Lib.hid (HK.out.turn g2)
            have HH1 := Lib.hid g3
            have HAR1 := Lib.hid g4
            clear g1 g2 g3 g4 HO HI HM HK HH HAR c60 c61 c62
            have hlf := HK1.out.blk
            rw [← HLI.out] at hlf
            have c60 := cell_of (i := 0) hlf rfl
            have q0 := (HI1.out.old.cell (p := ⟨b2, off2 + k * 2, none⟩) hbl2).trans K0.out
            have q1 := (HI1.out.old.cell (p := ⟨b2, off2 + k * 2 + 1, none⟩) hbl2).trans K1.out
            clear hlf
            obtain ⟨R, hR⟩ : ∃ R, s.deed d1 cs th = R := ⟨_, rfl⟩
            have hdn := done11_any w _ F1 x c s d1 M ts HO1.out HI1.out so2 cap2 cs HCS.out th (by omega) (by omega) (by have := HH1.out.few HO1.out.good.1; omega) (by omega)
            have hdeed := HH1.out.deed HIN.out (by omega) cs th
            rw [hR] at hdn hdeed
            obtain ⟨p, e0, s2, d2⟩ := R
            obtain ⟨sb, hsb⟩ : ∃ sb, (th == 1 || th == 2) = sb := ⟨_, rfl⟩
            rw [hsb] at hdn
            have HSBB := Lib.hid hsb
            clear hsb
            have HDN := Lib.hid hdn
            have HDE := Lib.hid hdeed
            clear hdn hdeed hR
            go_wp2_with fail
            refine HDN.out.mono ?_
            rintro e wd ⟨v, F2, y, t, rfl, hkp, hfr, h2, t2, hz⟩
            try simp only at hkp h2 hz
            have H2 := Lib.hid h2
            have HKP := Lib.hid hkp
            have HFR := Lib.hid hfr
            have HZ := Lib.hid hz
            have HI2 := Lib.hid (HI1.out.turn t2)
            have HM2 := Lib.hid (HM1.out.turn t2)
            have HK2 := Lib.hid (HK1.out.turn t2)
            obtain ⟨av, cv, rfl, _⟩ := hkp.pairs.read
            have HAP : Hid (∀ g, (Value.slice av p.length cv).ownBlock = some g → (Value.slice (some ⟨gm, 0, none⟩) ml.length cm).ownBlock ≠ some g) := Lib.hid (fun g hg e => by have h1 := HFR.out g hg; have h2 := (HM1.out.off g e).2; omega)
            clear hkp hfr h2 t2 hz HDN HI1 HM1 HK1 HO1 c60 q0 q1
            rcases HDE.out with hd | hd
            · obtain rfl : e0 = 0 := hd.e
              obtain rfl : p = s2.ps := hd.ps
              have HD := Lib.hid hd
              clear HDE hd HZ HH1
              go_wp2_with (first | (at_builtin; go_must (refine wpList_append_own2 _ rfl (.tmp 75) (.tmp 77) 67 rfl w.heap.size 42 1 24 _ Tryz.pairsInfo Tryz.underlying67 rfl (by decide) (.slice (some ⟨gm, 0, none⟩) ml.length cm) ml.length (ml.map (·.2)) rfl (HM2.out.below (balloc wd (.cells #[.slice av s2.ps.length cv] 42))).own ⟨wd.heap.size, 0, none⟩ 1 1 [.slice av s2.ps.length cv] rfl rfl (fun i u hi => by rw [addr_add, Nat.zero_add]; exact cell_of (heap_new wd _) (by simpa using hi)) (by intro u hu; simp at hu; subst hu; rfl) (by unfold maxLen; omega) (by omega) (HM2.out.below (balloc wd (.cells #[.slice av s2.ps.length cv] 42))).base_le ?_; intro vm' we ho hg hv; have HOH := Lib.hid ho; have HGH := Lib.hid hg; have HVH := Lib.hid hv; clear ho hg hv)))
              have HMB := Lib.hid (HM2.out.below (balloc wd (.cells #[.slice av s2.ps.length cv] 42)))
              have HSB := Lib.hid (H2.out.below (balloc wd (.cells #[.slice av s2.ps.length cv] 42)))
              have HPB := Lib.hid (HKP.out.below (balloc wd (.cells #[.slice av s2.ps.length cv] 42)))
              have HPU := Lib.hid (HMB.out.push HPB.out HAP.out HOH.out HGH.out HVH.out HSB.out.lt)
              have H3 := Lib.hid (HSB.out.push HMB.out HPU.out.2)
              have HI3 := Lib.hid ((HI2.out.below (balloc wd (.cells #[.slice av s2.ps.length cv] 42))).push HMB.out HPU.out.2)
              have HK3 := Lib.hid ((HK2.out.below (balloc wd (.cells #[.slice av s2.ps.length cv] 42))).aside HPU.out.2 HNE.out)
              have HP3 := Lib.hid (HPB.out.aside HPU.out.2 HAP.out)
              have HM3 := Lib.hid HPU.out.1
              have HN3 : Hid (vm'.ownBlock ≠ some B6) := Lib.hid (fun e => by rcases HVH.out with h | h; exact HNE.out (h.symm.trans e); have h1 := heap_lt (HK2.out.below (balloc wd (.cells #[.slice av s2.ps.length cv] 42))).blk; rw [h] at e; have e1 : (wd.alloc (.cells #[.slice av s2.ps.length cv] 42)).heap.size = B6 := Option.some.inj e; omega)
              clear HOH HGH HVH HMB HSB HPB HPU HM2 H2 HKP HI2 HK2 HAP HNE
              have HSC : Hid (Sto.scan s2.ps [] (99999 : Int).toNat = s2.ps) := Lib.hid (scan_fits HD.out.more.fits)
              go_wp2_with fail
              refine (scan_sc H3.out [] 99999 (by decide) (by decide)).mono ?_
              rintro e wf ⟨vf, rfl, pf, _, bf⟩
              have H4 := Lib.hid (H3.out.below bf)
              have HI4 := Lib.hid (HI3.out.below bf)
              have HM4 := Lib.hid (HM3.out.below bf)
              have HK4 := Lib.hid (HK3.out.below bf)
              have HP4 := Lib.hid (HP3.out.below bf)
              have HPF : Hid (PairsAt wf vf s2.ps) := Lib.hid (by rw [HSC.out] at pf; exact pf)
              clear pf bf H3 HI3 HM3 HK3 HP3 HSC
              go_wp2_with fail
              refine (rsame11_any (.slice av s2.ps.length cv) vf s2.ps s2.ps wf HP4.out.pairs HPF.out).mono ?_
              rw [show decide (s2.ps = s2.ps) = true from decide_eq_true rfl]
              rintro e wg ⟨rfl, bg⟩
              have H5 := Lib.hid (H4.out.below bg)
              have HI5 := Lib.hid (HI4.out.below bg)
              have HM5 := Lib.hid (HM4.out.below bg)
              have HK5 := Lib.hid (HK4.out.below bg)
              have HP5 := Lib.hid (HP4.out.below bg)
              clear bg H4 HI4 HM4 HK4 HP4 HPF
              have HARM : Hid (d2.armed = 0 ∨ (k + 1 = sc.length ∧ 0 < N)) := Lib.hid (HAR1.out.elim (fun h => .inl (HD.out.armed h)) .inr)
              have hG2 : s2.l.g ≤ s.l.g + 2 := HD.out.g
              have hT2 : s2.turn ≤ s.turn + 1 := HD.out.turn
              cases sb with
              | false =>
                go_wp2_with fail
                go_roundw
                case rel => exact ⟨k + 1, by go_num, by omega, ⟨F2, s2, d2, M + 3, ts ++ [(y, t)], ml ++ [(s2.ps, .slice av s2.ps.length cv)], H5.out, HI5.out, HM5.out, HK5.out, HN3.out, HB6.out, by rw [List.map_append]; exact HD.out.more, by simp, HARM.out, by omega, by omega, by omega, by simp; omega⟩⟩
                case measure => simp [intOf]; omega
              | true =>
                go_wp2_with fail
                have hmc := may_new (base := w.heap.size) (by have := HI5.out.old.size; omega) HP5.out H5.out.lt
                have hbc := balloc wg (.cells #[.slice av s2.ps.length cv] 42)
                have hlt6 := heap_lt HK5.out.blk
                go_roundw
                case rel => exact ⟨k + 1, by go_num, by omega, ⟨F2, s2, d2, M + 3, ts ++ [(y, t)], [(s2.ps, .slice av s2.ps.length cv)], H5.out.below hbc, HI5.out.below hbc, hmc, HK5.out.below hbc, (fun e => by have e1 : wg.heap.size = B6 := Option.some.inj e; omega), HB6.out, HD.out.safe (mod_true th HSBB.out), by simp, HARM.out, by omega, by omega, by omega, by simp⟩⟩
                case measure => simp [intOf]; omega
            · obtain rfl : e0 = 2 := hd.e
              obtain ⟨hl, hn⟩ : k + 1 = sc.length ∧ 0 < N := HAR1.out.resolve_left hd.armed
              obtain rfl : lb = true := by have := HLB.out; rw [← this]; simp; omega
              have hsd : s2.dead = true := hd.sd
              obtain ⟨nz, hnz, hzz⟩ := HZ.out hd.dd HH1.out.dd
              have HZN := Lib.hid hzz
              have HD := Lib.hid hd
              clear HDE hd HZ HH1 hzz H2
              have H2 := Lib.hid HZN.out
              clear HZN
              go_wp2_with (first | (at_builtin; go_must (refine wpList_append_own2 _ rfl (.tmp 75) (.tmp 77) 67 rfl w.heap.size 42 1 24 _ Tryz.pairsInfo Tryz.underlying67 rfl (by decide) (.slice (some ⟨gm, 0, none⟩) ml.length cm) ml.length (ml.map (·.2)) rfl (HM2.out.below (balloc wd (.cells #[.slice av p.length cv] 42))).own ⟨wd.heap.size, 0, none⟩ 1 1 [.slice av p.length cv] rfl rfl (fun i u hi => by rw [addr_add, Nat.zero_add]; exact cell_of (heap_new wd _) (by simpa using hi)) (by intro u hu; simp at hu; subst hu; rfl) (by unfold maxLen; omega) (by omega) (HM2.out.below (balloc wd (.cells #[.slice av p.length cv] 42))).base_le ?_; intro vm' we ho hg hv; have HOH := Lib.hid ho; have HGH := Lib.hid hg; have HVH := Lib.hid hv; clear ho hg hv; have hke : Hid (we.heap[B6]? = some (.cells life 66 (0, 0))) := Lib.hid (((HK2.out.below (balloc wd (.cells #[.slice av p.length cv] 42))).aside (touch_of_grown HGH.out) HNE.out).blk); have hlf := hke.out; rw [← HLI.out] at hlf; have c61 := cell_of (i := 1) hlf rfl; clear hlf hke)))
              have HMB := Lib.hid (HM2.out.below (balloc wd (.cells #[.slice av p.length cv] 42)))
              have HSB := Lib.hid (H2.out.below (balloc wd (.cells #[.slice av p.length cv] 42)))
              have HPB := Lib.hid (HKP.out.below (balloc wd (.cells #[.slice av p.length cv] 42)))
              have HPU := Lib.hid (HMB.out.push HPB.out HAP.out HOH.out HGH.out HVH.out HSB.out.lt)
              have H3 := Lib.hid (HSB.out.push HMB.out HPU.out.2)
              have HI3 := Lib.hid ((HI2.out.below (balloc wd (.cells #[.slice av p.length cv] 42))).push HMB.out HPU.out.2)
              have HK3 := Lib.hid ((HK2.out.below (balloc wd (.cells #[.slice av p.length cv] 42))).aside HPU.out.2 HNE.out)
              have HP3 := Lib.hid (HPB.out.aside HPU.out.2 HAP.out)
              have HM3 := Lib.hid HPU.out.1
              have HN3 : Hid (vm'.ownBlock ≠ some B6) := Lib.hid (fun e => by rcases HVH.out with h | h; exact HNE.out (h.symm.trans e); have h1 := heap_lt (HK2.out.below (balloc wd (.cells #[.slice av p.length cv] 42))).blk; rw [h] at e; have e1 : (wd.alloc (.cells #[.slice av p.length cv] 42)).heap.size = B6 := Option.some.inj e; omega)
              clear HOH HGH HVH HMB HSB HPB HPU HM2 H2 HKP HI2 HK2 HAP HNE
              refine (dead_sc H3.out).mono ?_
              rw [hsd]
              rintro e wf ⟨rfl, rfl⟩
              have HXS : Hid (SS.SitsP d2 ((ml ++ [(p, (.slice av p.length cv : Value))]).map (·.1)) G2) := Lib.hid (HD.out.sits.more (fun q hq => by rw [List.map_append]; exact hq) (by have := HGG.out; omega))
              have HDD : Hid (d2.dead = true) := Lib.hid HD.out.dd
              have HX := Lib.hid H3.out
              have HXI := Lib.hid HI3.out
              have HXM := Lib.hid HM3.out
              clear HD H3 HI3 HM3 HK3 HP3 HN3 hsd c61
              go_wp2_with fail
              refine (ddead_sc HX.out).mono ?_
              rw [HDD.out]
              rintro e wg ⟨rfl, rfl⟩
              go_wp2_with fail
              refine (revive_sc HX.out).mono ?_
              rintro e w3 ⟨rfl, F3, h3, t3⟩
              have HX3 := Lib.hid h3
              have HXI3 := Lib.hid (HXI.out.turn t3)
              have HXM3 := Lib.hid (HXM.out.turn t3)
              obtain ⟨u, ho, hu1, hu2, hu3, hu4, hu5, hu6, hu7⟩ := HXS.out.revive.opens rfl rfl
              obtain ⟨d4, hd4⟩ : ∃ dq, (SS.open_ d2.revive).2.1 = dq := ⟨_, rfl⟩
              rw [hd4] at ho hu4 hu5 hu6 hu7
              have HU4 := Lib.hid hu4
              have HIN4 := Lib.hid hu1
              have HOP4 := Lib.hid ho
              obtain ⟨u2, ho2, hv1, hv2, hv3, hv4, hv5, hv6, hv7⟩ := hu7.opens hu6 hu5
              obtain ⟨d6, hd6⟩ : ∃ dq, (SS.open_ d4).2.1 = dq := ⟨_, rfl⟩
              rw [hd6] at ho2 hv4 hv5 hv6 hv7
              have hpp : u2.ps = u.ps := by simpa using hv1
              have HU6 := Lib.hid hv4
              have HPP := Lib.hid hpp
              have HAR6 := Lib.hid hv5
              have HOP6 := Lib.hid ho2
              have HT6 := Lib.hid hv2
              have HG6 := Lib.hid hv3
              clear h3 t3 ho hu1 hu2 hu3 hu4 hu5 hu6 hu7 hd4 ho2 hv1 hv2 hv3 hv4 hv5 hv6 hv7 hd6 hpp HX HXI HXM HXS
              go_wp2_with fail
              have hop := open_sc HX3.out
              rw [HOP4.out] at hop
              refine hop.mono ?_
              clear hop
              rintro e w4 ⟨v4, rfl, hs4⟩
              obtain ⟨x4, F4, rfl, h4, t4, _⟩ := hs4 u rfl
              have HX4 := Lib.hid h4
              have HXI4 := Lib.hid (HXI3.out.turn t4)
              have HXM4 := Lib.hid (HXM3.out.turn t4)
              clear hs4 h4 t4 HX3 HXI3 HXM3
              go_wp2_with fail
              refine (scan_sc HX4.out [] 99999 (by decide) (by decide)).mono ?_
              rintro e w5 ⟨v5, rfl, p5, _, b5⟩
              have HX5 := Lib.hid (HX4.out.below b5)
              have HXI5 := Lib.hid (HXI4.out.below b5)
              have HXM5 := Lib.hid (HXM4.out.below b5)
              have HP5 : Hid (PairsAt w5 v5 u.ps) := Lib.hid (by have e1 : Sto.scan u.ps [] (99999 : Int).toNat = u.ps := scan_fits HU4.out.fits; rw [e1] at p5; exact p5)
              clear p5 b5 HX4 HXI4 HXM4
              go_wp2_with fail
              refine (among11_any w5 F4 w.heap.size v5 _ u.ps _ HP5.out HXM5.out (by first | omega | (simp only [List.length_append, List.length_singleton]; omega)) HIN4.out).mono ?_
              rintro e w6 ⟨rfl, b6⟩
              have HX6 := Lib.hid (HX5.out.below b6)
              have HXI6 := Lib.hid (HXI5.out.below b6)
              clear b6 HX5 HXI5 HXM5 HP5
              go_wp2_with fail
              have hop := open_sc HX6.out
              rw [HOP6.out] at hop
              refine hop.mono ?_
              clear hop
              rintro e w7 ⟨v7, rfl, hs7⟩
              obtain ⟨x7, F7, rfl, h7, t7, lg7, mb7, hst7⟩ := hs7 u2 rfl
              have HX7 := Lib.hid h7
              have HXI7 := Lib.hid (HXI6.out.turn t7)
              have HST7 := Lib.hid hst7
              clear hs7 h7 t7 hst7 HX6 HXI6
              go_wp2_with fail
              refine (scan_sc HX7.out [] 99999 (by decide) (by decide)).mono ?_
              rintro e w8 ⟨v8, rfl, p8, _, b8⟩
              have HX8 := Lib.hid (HX7.out.below b8)
              have HXI8 := Lib.hid (HXI7.out.below b8)
              have HST8 := Lib.hid (HST7.out.below b8)
              have HP8 : Hid (PairsAt w8 v8 u.ps) := Lib.hid (by have e1 : Sto.scan u2.ps [] (99999 : Int).toNat = u2.ps := scan_fits HU6.out.fits; rw [e1, HPP.out] at p8; exact p8)
              clear p8 b8 HX7 HXI7 HST7
              go_wp2_with fail
              refine (scan11_any HST8.out [] 99999 (by decide) (by decide)).mono ?_
              rintro e w9 ⟨v9, rfl, p9, _, b9⟩
              have HX9 := Lib.hid (HX8.out.below b9)
              have HXI9 := Lib.hid (HXI8.out.below b9)
              have HP8' := Lib.hid (HP8.out.below b9)
              have HP9 : Hid (PairsAt w9 v9 u.ps) := Lib.hid (by have e1 : Sto.scan u.ps [] (99999 : Int).toNat = u.ps := scan_fits HU4.out.fits; rw [e1] at p9; exact p9)
              clear p9 b9 HX8 HXI8 HST8 HP8
              go_wp2_with fail
              refine (rsame11_any v8 v9 u.ps u.ps w9 HP8'.out HP9.out).mono ?_
              rw [show decide (u.ps = u.ps) = true from decide_eq_true rfl]
              rintro e wz ⟨rfl, bz⟩
              have HXZ := Lib.hid (HX9.out.below bz)
              have HXIZ := Lib.hid (HXI9.out.below bz)
              clear bz HX9 HXI9 HP8' HP9
              go_wp2_with fail
              go_roundw
              case rel => exact ⟨j + 1, x7, by go_num, rfl, by omega, ⟨F7, u2, d6, _, HXZ.out, HXIZ.out, HU6.out, HAR6.out, by omega, HT6.out, by have h1 := HG6.out; have h2 := HG2.out; omega⟩⟩
              case measure => simp [intOf]; omega
        · obtain rfl : k = sc.length := by omega
          go_upto_region 24 with fail
          go_cut [115] from 22 to 155 (fun v wx => v = .bool false ∧ ∃ (D : DS) (F1 : Nat → Prop), Sc wx F1 x c s D 0 ts ∧ STurn wr wx F F1 ∧ SS.SitsP D (ml.map (·.1)) s.l.g)
          case first =>
            have HDD := Lib.hid HH.out.dd
            go_wp2_with fail
            refine (ddead_sc HO.out).mono ?_
            rw [HDD.out]
            rintro e we ⟨rfl, rfl⟩
            go_wp2_with fail
            rw [HKE.out]
            refine (crash_sc HO.out KK HKB.out.2).mono ?_
            rw [crash_fine HDD.out HKB.out.1]
            rintro e wd ⟨rfl, F1, _, t1, h1⟩
            go_wp2
            go_meet
            case rel => exact ⟨rfl, _, F1, h1 rfl HDD.out, t1, HH.out.crash _⟩
          case rest =>
            obtain ⟨rfl, D, F1, g1, g2, g3⟩ := hcut
            have HX := Lib.hid g1
            have HXI := Lib.hid (HI.out.turn g2)
            have HXM := Lib.hid (HM.out.turn g2)
            have HXS : Hid (SS.SitsP D (ml.map (·.1)) G2) := Lib.hid (g3.more (fun _ hq => hq) (by have := HGG.out; omega))
            clear g1 g2 g3 HO HI HM HK HH HAR c60 c61 c62
            go_wp2_with fail
            refine (revive_sc HX.out).mono ?_
            rintro e w3 ⟨rfl, F3, h3, t3⟩
            have HX3 := Lib.hid h3
            have HXI3 := Lib.hid (HXI.out.turn t3)
            have HXM3 := Lib.hid (HXM.out.turn t3)
            obtain ⟨u, ho, hu1, hu2, hu3, hu4, hu5, hu6, hu7⟩ := HXS.out.revive.opens rfl rfl
            obtain ⟨d4, hd4⟩ : ∃ dq, (SS.open_ D.revive).2.1 = dq := ⟨_, rfl⟩
            rw [hd4] at ho hu4 hu5 hu6 hu7
            have HU4 := Lib.hid hu4
            have HIN4 := Lib.hid hu1
            have HOP4 := Lib.hid ho
            obtain ⟨u2, ho2, hv1, hv2, hv3, hv4, hv5, hv6, hv7⟩ := hu7.opens hu6 hu5
            obtain ⟨d6, hd6⟩ : ∃ dq, (SS.open_ d4).2.1 = dq := ⟨_, rfl⟩
            rw [hd6] at ho2 hv4 hv5 hv6 hv7
            have hpp : u2.ps = u.ps := by simpa using hv1
            have HU6 := Lib.hid hv4
            have HPP := Lib.hid hpp
            have HAR6 := Lib.hid hv5
            have HOP6 := Lib.hid ho2
            have HT6 := Lib.hid hv2
            have HG6 := Lib.hid hv3
            clear h3 t3 ho hu1 hu2 hu3 hu4 hu5 hu6 hu7 hd4 ho2 hv1 hv2 hv3 hv4 hv5 hv6 hv7 hd6 hpp HX HXI HXM HXS
            go_wp2_with fail
            have hop := open_sc HX3.out
            rw [HOP4.out] at hop
            refine hop.mono ?_
            clear hop
            rintro e w4 ⟨v4, rfl, hs4⟩
            obtain ⟨x4, F4, rfl, h4, t4, _⟩ := hs4 u rfl
            have HX4 := Lib.hid h4
            have HXI4 := Lib.hid (HXI3.out.turn t4)
            have HXM4 := Lib.hid (HXM3.out.turn t4)
            clear hs4 h4 t4 HX3 HXI3 HXM3
            go_wp2_with fail
            refine (scan_sc HX4.out [] 99999 (by decide) (by decide)).mono ?_
            rintro e w5 ⟨v5, rfl, p5, _, b5⟩
            have HX5 := Lib.hid (HX4.out.below b5)
            have HXI5 := Lib.hid (HXI4.out.below b5)
            have HXM5 := Lib.hid (HXM4.out.below b5)
            have HP5 : Hid (PairsAt w5 v5 u.ps) := Lib.hid (by have e1 : Sto.scan u.ps [] (99999 : Int).toNat = u.ps := scan_fits HU4.out.fits; rw [e1] at p5; exact p5)
            clear p5 b5 HX4 HXI4 HXM4
            go_wp2_with fail
            refine (among11_any w5 F4 w.heap.size v5 _ u.ps _ HP5.out HXM5.out (by first | omega | (simp only [List.length_append, List.length_singleton]; omega)) HIN4.out).mono ?_
            rintro e w6 ⟨rfl, b6⟩
            have HX6 := Lib.hid (HX5.out.below b6)
            have HXI6 := Lib.hid (HXI5.out.below b6)
            clear b6 HX5 HXI5 HXM5 HP5
            go_wp2_with fail
            have hop := open_sc HX6.out
            rw [HOP6.out] at hop
            refine hop.mono ?_
            clear hop
            rintro e w7 ⟨v7, rfl, hs7⟩
            obtain ⟨x7, F7, rfl, h7, t7, lg7, mb7, hst7⟩ := hs7 u2 rfl
            have HX7 := Lib.hid h7
            have HXI7 := Lib.hid (HXI6.out.turn t7)
            have HST7 := Lib.hid hst7
            clear hs7 h7 t7 hst7 HX6 HXI6
            go_wp2_with fail
            refine (scan_sc HX7.out [] 99999 (by decide) (by decide)).mono ?_
            rintro e w8 ⟨v8, rfl, p8, _, b8⟩
            have HX8 := Lib.hid (HX7.out.below b8)
            have HXI8 := Lib.hid (HXI7.out.below b8)
            have HST8 := Lib.hid (HST7.out.below b8)
            have HP8 : Hid (PairsAt w8 v8 u.ps) := Lib.hid (by have e1 : Sto.scan u2.ps [] (99999 : Int).toNat = u2.ps := scan_fits HU6.out.fits; rw [e1, HPP.out] at p8; exact p8)
            clear p8 b8 HX7 HXI7 HST7
            go_wp2_with fail
            refine (scan11_any HST8.out [] 99999 (by decide) (by decide)).mono ?_
            rintro e w9 ⟨v9, rfl, p9, _, b9⟩
            have HX9 := Lib.hid (HX8.out.below b9)
            have HXI9 := Lib.hid (HXI8.out.below b9)
            have HP8' := Lib.hid (HP8.out.below b9)
            have HP9 : Hid (PairsAt w9 v9 u.ps) := Lib.hid (by have e1 : Sto.scan u.ps [] (99999 : Int).toNat = u.ps := scan_fits HU4.out.fits; rw [e1] at p9; exact p9)
            clear p9 b9 HX8 HXI8 HST8 HP8
            go_wp2_with fail
            refine (rsame11_any v8 v9 u.ps u.ps w9 HP8'.out HP9.out).mono ?_
            rw [show decide (u.ps = u.ps) = true from decide_eq_true rfl]
            rintro e wz ⟨rfl, bz⟩
            have HXZ := Lib.hid (HX9.out.below bz)
            have HXIZ := Lib.hid (HXI9.out.below bz)
            clear bz HX9 HXI9 HP8' HP9
            go_wp2_with fail
            go_roundw
            case rel => exact ⟨j + 1, x7, by go_num, rfl, by omega, ⟨F7, u2, d6, _, HXZ.out, HXIZ.out, HU6.out, HAR6.out, by omega, HT6.out, by have h1 := HG6.out; have h2 := HG2.out; omega⟩⟩
            case measure => simp [intOf]; omega
    · obtain rfl : j = ls.length := by omega
      go_wp2_with fail
      refine (fixed11_any wr).mono ?_
      rintro e wf ⟨rfl, bf⟩
      have BF := Lib.hid (HI.out.below bf)
      clear bf
      go_wp2
      go_ret
      exact ⟨rfl, BF.out.old⟩
end Go.Proofs.YtpjpknndfhablaaGreat
namespace Go.Proofs.YtpjpknndfhablaaGreat
open Go.ChangeShapes Go.WideShapes Go.ChangeAt Go.RowKit Go.Deep
theorem bulk_bound' {H : Type} {l : List (DataW H)} (hk : Rows.uptoSmall H l = true) : Rows.uptoBulkAll l ≤ 1048576 := of_decide_eq_true hk
set_option maxRecDepth 100000 in
theorem storeLives_contract (H : Type) (enc : TypeId × Value → H) (W : World) (base : Nat) (args : Array Value) (ds gs : List (DataW H)) (before : List MemPlace)
    (hval : ∀ (j : Nat) t v, Tryz.f5.params[j]? = some t → args[j]? = some v → Value.okWide Tryz.prog W .any base t v)
    (hW : DataW.Whole enc Tryz.prog Tryz.f5.params.toList Rows.storeLivesSpec.vars false W args.toList ds gs before)
    (hbulk : Rows.uptoBulkAll (ds ++ gs) ≤ 1048576)
    (hsz : (DataW.weightsEach Tryz.prog (Tryz.f5.params.toList ++ Rows.storeLivesSpec.plain.varTypes Tryz.prog) (ds ++ gs)).all (· ≤ reachBytes) = true) :
    Calls Tryz.prog 5 args W fun e W' => ∃ v, e = .returned v ∧ Rows.storeLivesSpec.post enc Tryz.prog Tryz.f5 false true false false W args v W' := by
  have hW' := hW
  obtain ⟨p, q, hA0, hV, rfl, _, _⟩ := hW
  have hA : DataW.TrodAll enc Tryz.prog W 0 (fun _ => true) true Tryz.f5.params.toList args.toList ds p := hA0
  rw [Tryz.params5] at hA hval hsz
  obtain ⟨v0, d0, rfl, rfl, h0⟩ := trodAll_one hA
  obtain ⟨rfl, rfl⟩ := trodVars_none hV
  obtain ⟨a0, n0, c0, rfl⟩ := okWide_slice Tryz.underlying63 (hval 0 63 v0 rfl rfl)
  have hb0 : Rows.uptoBulk d0 ≤ 1048576 := Nat.le_trans (bulk_part (by simp)) hbulk
  obtain ⟨f0, g0⟩ := h0
  obtain ⟨_, _, _, l0, e0, hl0, hc0⟩ := open_livesS (y := (d0, p)) (weights_of hsz (j := 0) rfl rfl) hb0 g0
  simp [Value.cells] at e0
  obtain ⟨rfl, rfl, rfl⟩ := e0
  subst hl0
  have h0 : DataW.Trod enc Tryz.prog W 0 (fun _ => true) true _ _ d0 p := ⟨f0, g0⟩
  clear hA0
  simp only [List.append_nil] at hW'
  have hlt0 : ∀ x ∈ p, x.block < W.heap.size := fun x hx => hW'.lt x (by simp [hx])
  refine (storeLives_any W a0 c0 l0 hc0).mono fun e W' ⟨he, hnx⟩ => ?_
  subst he
  refine ⟨_, rfl, _, _, _, [], p, [], hW', ?_, ?_, rfl, hnx.frame _, fun h => by cases h⟩
  · exact trodAll_mk1 (shut_bool Tryz.underlying4 true)
  · exact trodAll_mk1 (Below.trod Tryz.laidOut (by kernel_rfl) (of_decide_eq_true (by kernel_rfl)) h0 hnx hlt0)
set_option maxRecDepth 100000 in
theorem storeLives_upto (os : Os) (started : os.Started) (H : Type) (enc : TypeId × Value → H) (F : Stop.Interp) :
    ReturnsInHanded {} Tryz.checked os 5 .any ((Rows.OpenSpec.upto Rows.storeLivesSpec).pre6 enc Tryz.prog Tryz.f5 Rows.storeLivesUptoRow.domain false) (((Rows.OpenSpec.upto Rows.storeLivesSpec).at F).post enc Tryz.prog Tryz.f5 false true false false) := by
  refine returnsInHanded_of_cond_sized (C := Tryz.checked) (s := Rows.OpenSpec.upto Rows.storeLivesSpec) (k := Rows.uptoSmall) rfl Tryz.own started (by kernel_rfl) Tryz.func5
    (OpenSpec.witness (enc := enc) (C := Tryz.checked) (s := Rows.OpenSpec.upto Rows.storeLivesSpec) (k := Rows.uptoSmall) rfl false ⟨#[], #[.slice none 0 0], []⟩ 8 (by kernel_rfl) (by kernel_rfl) (by kernel_rfl)
      (x := ([.nil], [], [])) (by kernel_rfl) rfl (by kernel_rfl)) ?_
  intro W base args ds gs before hval hW _ hk hsz _
  exact storeLives_contract H enc W base args ds gs before hval hW (bulk_bound' hk) hsz
theorem storeLives_upto_holds : Rows.StoreLivesUptoSaid :=
  OpenClaim.holds_of_cond 5 Tryz.f5 rfl rfl rfl rfl rfl rfl rfl ⟨rfl, rfl, rfl, rfl, rfl⟩ rfl rfl rfl rfl rfl (by kernel_rfl) Tryz.func5 (by kernel_rfl)
    (of_decide_eq_true (by kernel_rfl)) (by unfold Func.isWrapper; first | (rw [if_pos (by decide +kernel)]; kernel_rfl) | (rw [if_neg (by decide +kernel)]; exact ⟨rfl, rfl⟩))
    (fun os started H enc _ F => storeLives_upto os started H enc F)
end Go.Proofs.YtpjpknndfhablaaGreat

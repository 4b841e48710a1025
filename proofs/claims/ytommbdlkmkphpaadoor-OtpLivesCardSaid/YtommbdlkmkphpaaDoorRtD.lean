/- Walks of the document's side of chapter 04: Primes. -/
import Derived.Test.YtommbdlkmkphpaaDoorRtC
namespace Go.Proofs.YtommbdlkmkphpaaDoor
open Go.RowKit
theorem touch_own' {w w' : World} {v : Value} {B : Nat} (h : Touch (fun b => v.ownBlock = some b) w w') (hB : B ≤ w.heap.size) (hv : ∀ k, v.ownBlock = some k → B ≤ k) : Below B w w' :=
  h.below hB (fun k hk e => by have := hv k e; omega)
theorem ownF_none (w : World) (base g : Nat) (t : TypeId) (cs : Array Value) (hb : base ≤ g) (h : w.heap[g]? = some (.cells cs t (0, 0))) : OwnF w base 1 (.slice (some ⟨g, 0, none⟩) 0 0) 0 [] :=
  ⟨rfl, .inr ⟨g, 0, rfl, hb, heap_lt h, Nat.le_refl _, Nat.zero_le _, fun j hj => by omega, fun j u hu => by simp at hu⟩⟩
theorem ownF_at {w : World} {base n cap : Nat} {a : Option Addr} {vs : List Value} (h : OwnF w base 1 (.slice a n cap) n vs) (hn : 0 < n) : ∃ g, a = some ⟨g, 0, none⟩ ∧ base ≤ g ∧ RowV w g vs := by
  rcases h.2 with ⟨_, h0⟩ | ⟨g, cap', he, hb, hg, _⟩
  · omega
  · cases he; exact ⟨g, rfl, hb, RowV.own h⟩
namespace Rt
theorem pl_small : ∀ x ∈ pl, 1 < x ∧ x < 65536 := by decide +kernel
theorem pl_length : pl.length = 64 := by decide +kernel
theorem all_next (i : Nat) (q : Nat) (h : i < pl.length) : (pl.take (i + 1)).all (fun x => q % x != 0) = ((pl.take i).all (fun x => q % x != 0) && (q % pl[i] != 0)) := by
  rw [List.take_succ_eq_append_getElem h, List.all_append]; simp
theorem step_at (q : Nat) (h1 : 2 ≤ q) (h2 : q < 312) : ((pl.take (cnt q)).all (fun x => q % x != 0) = pl.contains q ∧ (pl.contains q → pl[cnt q]? = some q ∧ cnt (q + 1) = cnt q + 1) ∧ (!pl.contains q → cnt (q + 1) = cnt q)) := cnt_step ⟨q, h2⟩ h1
theorem cnt_two : cnt 2 = 0 := by decide +kernel
theorem take_next (c q : Nat) (h : pl[c]? = some q) : c64 (pl.take (c + 1)) = c64 (pl.take c) ++ [.int .u64 (q : Int)] := by
  obtain ⟨hc, he⟩ := List.getElem?_eq_some_iff.1 h
  rw [List.take_succ_eq_append_getElem hc, c64_append, he]; rfl
end Rt
set_option maxHeartbeats 4000000 in
set_option maxRecDepth 100000 in
theorem primes_any (n : Nat) (w : World) (hn1 : 1 ≤ n) (hn : n ≤ 64) :
    Calls Tryd.prog 34 #[.int .i64 n] w fun e w' => ∃ g cap, e = .returned (.slice (some ⟨g, 0, none⟩) n cap) ∧ n ≤ cap ∧ Row64 w' g (Rt.pl.take n) ∧ w.heap.size ≤ g ∧ Below w.heap.size w w' := by
  go_enter Tryd.func34, Tryd.ntmps34
  go_wp2_with fail
  have O1 : Hid (OwnF (w.alloc (.cells #[] 34)) w.heap.size 1 (.slice (some ⟨w.heap.size, 0, none⟩) 0 0) 0 []) := ownF_none _ _ _ 34 #[] (Nat.le_refl _) (heap_new w _)
  go_loopw [3, 4] (fun lv qv wr => ∃ q c : Nat, 2 ≤ q ∧ q ≤ 312 ∧ qv = .int .u64 q ∧ Hid (Rt.cnt q = c) ∧ c ≤ n ∧ OwnF wr w.heap.size 1 lv c (c64 (Rt.pl.take c)) ∧ Below w.heap.size w wr) (fun _ qv _ => 312 - (intOf qv).toNat)
  case atStart => exact ⟨2, 0, by omega, by omega, rfl, Lib.hid Rt.cnt_two, by omega, O1.out, balloc _ _⟩
  case round =>
    obtain ⟨q, c, hq2, hq, rfl, HC, hcn, ho, hb⟩ := hrel
    have HO := Lib.hid ho
    have HB := Lib.hid hb
    obtain ⟨pa, ca, rfl, hca, hma⟩ := ho.slice
    clear O1 ho hb
    by_cases hlt : c < n
    · have hlt' : (c : Int) < (n : Int) := by omega
      have hq3 : q < 312 := by
        rcases Nat.lt_or_ge q 312 with h | h
        · exact h
        · exfalso
          have h1 := HC.out
          rw [show q = 312 by omega, Rt.cnt_end] at h1
          omega
      obtain ⟨hs1, hs2, hs3⟩ := Rt.step_at q hq2 hq3
      rw [HC.out] at hs1 hs2 hs3
      have HS1 := Lib.hid hs1
      have HS2 := Lib.hid hs2
      have HS3 := Lib.hid hs3
      clear hs1 hs2 hs3
      go_wp2_with fail
      go_loop [5, 6] (fun bv iv => ∃ (i : Nat) (b : Bool), i ≤ c ∧ iv = .int .i64 i ∧ bv = .bool b ∧ Hid ((Rt.pl.take i).all (fun x => q % x != 0) = b)) (fun _ iv => c - (intOf iv).toNat)
      case atStart => exact ⟨0, true, by omega, rfl, rfl, rfl⟩
      case round =>
        obtain ⟨i, b, hi, rfl, rfl, HBI⟩ := hrel
        by_cases hic : i < c
        · have hic' : (i : Int) < (c : Int) := by omega
          have hip : i < Rt.pl.length := by rw [Rt.pl_length]; omega
          have HNX := Lib.hid (Rt.all_next i q hip)
          rw [HBI.out] at HNX
          obtain ⟨g, rfl, hg, hrow⟩ := ownF_at HO.out (by omega)
          obtain ⟨x, hx⟩ : ∃ x, Rt.pl[i]'hip = x := ⟨_, rfl⟩
          have hx1 := Rt.pl_small _ (List.getElem_mem hip)
          have hc1 : wr.cell? ⟨g, i, none⟩ = some (.int .u64 (x : Int)) := (hrow.2 i _ (c64_get _ i x (by rw [List.getElem?_take_of_lt hic, List.getElem?_eq_getElem hip, hx]))).1
          rw [hx] at hx1 HNX
          have HX := Lib.hid hx
          have hxl : 1 < x := hx1.1
          have hxu : x < 65536 := hx1.2
          have hx0 : ¬ ((x : Int) = 0) := by omega
          clear hx hx1 hrow hg
          cases b
          · go_wp2_with fail
            exact ⟨⟨i + 1, false, by omega, by go_num, rfl, by have h := HNX.out; rw [Bool.false_and] at h; exact h⟩, by simp [intOf]; omega⟩
          · by_cases hd : q % x = 0
            · have e1 : ((q : Int) % (x : Int) == 0) = true := by rw [beq_iff_eq]; omega
              have e2 : ((q : Int) % (x : Int) != 0) = false := by rw [bne_eq_false_iff_eq]; omega
              go_wp2_with fail
              exact ⟨⟨i + 1, false, by omega, by go_num, rfl, by have h := HNX.out; rw [hd] at h; exact h⟩, by simp [intOf]; omega⟩
            · have e1 : ((q : Int) % (x : Int) == 0) = false := by rw [beq_eq_false_iff_ne]; omega
              have e2 : ((q : Int) % (x : Int) != 0) = true := by rw [bne_iff_ne]; omega
              have e3 : ¬ ((q : Int) % (x : Int) = 0) := by omega
              go_wp2_with fail
              exact ⟨⟨i + 1, true, by omega, by go_num, rfl, by have h := HNX.out; rw [show (q % x != 0) = true by rw [bne_iff_ne]; exact hd] at h; exact h⟩, by simp [intOf]; omega⟩
        · obtain rfl : i = c := by omega
          have HP : Hid (b = Rt.pl.contains q) := by
            have h1 := HBI.out
            rw [HS1.out] at h1
            exact h1.symm
          have hbs := HB.out.size
          clear hic
          cases b
          · have HC2 : Hid (Rt.cnt (q + 1) = i) := HS3.out (by rw [← HP.out]; rfl)
            go_wp2_with fail
            refine ⟨⟨q + 1, i, by omega, by omega, by go_num, HC2, hcn, HO.out, HB.out⟩, by simp [intOf]; omega⟩
          · obtain ⟨hg1, hg2⟩ := HS2.out (by rw [← HP.out])
            have HT := Lib.hid (Rt.take_next i q hg1)
            have HC2 := Lib.hid hg2
            clear hg1 hg2
            go_wp2_with (first | (at_builtin; go_must (refine wpList_append_ownF _ rfl (.tmp 31) (.tmp 33) 61 rfl w.heap.size 34 1 8 _ Tryd.info64 Tryd.underlying61 rfl (by decide) (.slice pa i ca) i (c64 (Rt.pl.take i)) rfl (HO.out.touch (S := fun _ => False) (.of_below (balloc wr _)) (fun _ _ h => h)) ⟨wr.heap.size, 0, none⟩ 1 1 [.int .u64 (q : Int)] rfl rfl (fun i u hi => by rw [addr_add, Nat.zero_add]; exact cell_of (heap_new wr _) (by simpa using hi)) (by intro u hu; simp at hu; subst hu; rfl) (by decide) (by unfold maxLen; omega) (by omega) (by simp; omega) ?_; intro v2 w2 ho2 hgr2 _; have HO2 := Lib.hid ho2; have HG2 := Lib.hid hgr2; clear ho2 hgr2)))
            have HBX : Hid (Below w.heap.size w w2) := by
              have h2 := bthen HB.out (balloc wr (.cells #[.int .u64 (q : Int)] 34))
              exact h2.trans (touch_own' (touch_of_grown HG2.out) h2.size (fun k hk => (HO.out.lt k hk).1))
            refine ⟨⟨q + 1, i + 1, by omega, by omega, by go_num, HC2, by omega, by rw [HT.out]; exact HO2.out, HBX.out⟩, by simp [intOf]; omega⟩
    · obtain rfl : c = n := by omega
      obtain ⟨g, rfl, hg, hrow⟩ := ownF_at HO.out (by omega)
      have HROW := Lib.hid hrow
      have HGG := Lib.hid hg
      clear hrow hg
      go_wp2_with fail
      go_ret
      exact ⟨g, ca, rfl, hca, HROW.out, HGG.out, HB.out⟩
end Go.Proofs.YtommbdlkmkphpaaDoor

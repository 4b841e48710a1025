/- Walk of Mac. -/
import Derived.Test.YtommbdlkmkphpaaDoorHshC
namespace Go.Proofs.YtommbdlkmkphpaaDoor
open Go.RowKit

set_option maxHeartbeats 8000000 in
set_option maxRecDepth 100000 in
theorem mac_kk (key kk s : List UInt8) (w : World) (hk : key.length ≤ 140737488355200) (hs : s.length ≤ 140737488355000) (hkk : kk = if key.length > 64 then Sha.sum key else key) :
    Calls Tryd.prog 13 #[.string ⟨key.toArray⟩, .string ⟨s.toArray⟩] w fun e w' => e = .returned (.string ⟨(Sha.sum (xored kk 92 kk.length ++ Sha.sum (xored kk 54 kk.length ++ s))).toArray⟩) ∧ Below w.heap.size w w' := by
  have h64 : kk.length ≤ 64 := by rw [hkk]; split <;> first | (rw [Sha.sum_length]; decide) | omega
  have HKK := Lib.hid hkk
  clear hkk
  by_cases hl : key.length > 64
  · have HK2 : Hid (kk = Sha.sum key) := by have := HKK.out; rw [if_pos hl] at this; exact this
    go_enter Tryd.func13, Tryd.ntmps13
    go_wp2_with fail
    refine (sum_any key w hk).mono ?_
    rw [← HK2.out]
    rintro e w0 ⟨rfl, b0⟩
    have B0 := Lib.hid b0
    clear b0
    go_wp2_with fail
    refine (repeat_any _ _ 54 (cell_of (heap_new w0 _) rfl)).mono ?_
    rintro e w1 ⟨b1, rfl, hb1, hr1, hw1⟩
    have R1 := Lib.hid (hr1.list (by decide))
    have W1 := Lib.hid (bthen (balloc w0 _) hw1)
    have L1 := Lib.hid (Nat.le_trans (balloc w0 (.cells #[.int .u8 54] 5)).size hb1)
    clear hr1 hw1 hb1
    go_wp2_with fail
    refine (repeat_any _ _ 92 (cell_of (heap_new w1 _) rfl)).mono ?_
    rintro e w2 ⟨b2, rfl, hb2, hr2, hw2⟩
    have R2 := Lib.hid (hr2.list (by decide))
    have R1' := Lib.hid (R1.out.below (bthen (balloc w1 _) hw2))
    have W2 := Lib.hid (bthen W1.out (bthen (balloc w1 _) hw2))
    have h12 : b1 < b2 := by
      have h1 := R1.out.lt
      have h3 := hb2
      rw [World.size_alloc] at h3
      omega
    clear hr2 hw2 hb2
    go_wp2_with fail
    go_loopw [19] (fun i wr => ∃ k : Nat, i = .int .i64 k ∧ k ≤ kk.length ∧ RowL wr b1 (xored kk 54 k) ∧ RowL wr b2 (xored kk 92 k) ∧ Touch (fun q => q = b1 ∨ q = b2) w2 wr) (fun i _ => kk.length - (intOf i).toNat)
    case atStart => exact ⟨0, rfl, by omega, R1'.out, R2.out, Touch.refl _ _⟩
    case round =>
      obtain ⟨k, rfl, hkk, hr1, hr2, ht⟩ := hrel
      have Q1 := Lib.hid hr1
      have Q2 := Lib.hid hr2
      have QT := Lib.hid ht
      clear hr1 hr2 ht
      by_cases hkl : k < kk.length
      · have hq : (k : Int) < (kk.length : Int) := by omega
        have hq64 : (k : Int) < 64 := by omega
        go_wp2_with fail
        refine region_tail 9 (by kernel_rfl) (by kernel_rfl) ?_
        intro wy1 hwy1
        have hrow1 : RowL wy1 b1 (xored kk 54 k) := by rw [hwy1.out]; exact Q1.out
        have c1 := hrow1.cell (xored_at kk 54 k hkl h64)
        have f1 := hrow1.free
        have HW1 := Lib.hid hrow1
        clear hrow1
        simp only [List.take_succ_cons, List.take_zero, List.drop_succ_cons, List.drop_zero]
        iterate 9 still_step
        refine wpStill_nil ?_
        have HQ2 : Hid (RowL wy1 b2 (xored kk 92 k)) := by rw [hwy1.out]; exact Q2.out
        go_wp2_with fail
        refine region_tail 9 (by kernel_rfl) (by kernel_rfl) ?_
        intro wy2 hwy2
        have hrow2 : RowL wy2 b2 (xored kk 92 k) := by
          rw [hwy2.out]
          exact HQ2.out.touch (S := (· = b1)) (Touch.drew touch_set1) (by omega)
        have c2 := hrow2.cell (xored_at kk 92 k hkl h64)
        have f2 := hrow2.free
        have HW2 := Lib.hid hrow2
        clear hrow2 f1 c1
        simp only [List.take_succ_cons, List.take_zero, List.drop_succ_cons, List.drop_zero]
        iterate 9 still_step
        refine wpStill_nil ?_
        go_wp2_with fail
        go_roundw
        case rel =>
          have e1 : ((54 ^^^ kk[k] : UInt8).toNat : Int) = bits .xor .u8 54 ((kk[k]'hkl).toNat : Int) := (u8_xor 54 (kk[k]'hkl)).symm
          have e2 : ((92 ^^^ kk[k] : UInt8).toNat : Int) = bits .xor .u8 92 ((kk[k]'hkl).toNat : Int) := (u8_xor 92 (kk[k]'hkl)).symm
          have hx1 := HW1.out.set k (54 ^^^ kk[k])
          have hx2 := HW2.out.set k (92 ^^^ kk[k])
          rw [UInt8.xor_comm, xored_set kk 54 k hkl h64, UInt8.xor_comm, e1] at hx1
          rw [UInt8.xor_comm, xored_set kk 92 k hkl h64, UInt8.xor_comm, e2] at hx2
          refine ⟨k + 1, by go_num, by omega, ?_, hx2, ?_⟩
          · rw [hwy2.out]
            exact (hx1.touch (S := fun _ => False) (Touch.refl _ _).drew (fun h => h)).touch (S := (· = b2)) touch_set1 (by omega)
          · rw [hwy2.out, hwy1.out]
            exact (QT.out.drew.setCell _ (fun _ => .inl rfl)).drew.setCell _ (fun _ => .inr rfl)
        case measure => simp [intOf]; omega
      · obtain rfl : k = kk.length := by omega
        clear hkl
        obtain ⟨X, hX⟩ : ∃ X, xored kk 92 kk.length = X := ⟨_, rfl⟩
        obtain ⟨Y, hY⟩ : ∃ Y, xored kk 54 kk.length = Y := ⟨_, rfl⟩
        rw [hX] at Q2
        rw [hY] at Q1
        have HX := Lib.hid hX
        have HY := Lib.hid hY
        have XL : X.length = 64 := by rw [← hX]; exact xored_length kk 92 _ (Nat.le_refl _) h64
        have YL : Y.length = 64 := by rw [← hY]; exact xored_length kk 54 _ (Nat.le_refl _) h64
        have HXL := Lib.hid XL
        have HYL := Lib.hid YL
        have CX : Hid (∀ w', Below wr.heap.size wr w' → (convert 32 9 (.slice (some ⟨b2, 0, none⟩) 64 64)).run Tryd.prog w' = .ok (.string ⟨X.toArray⟩) w') := fun w' hb => by
          have := (Q2.out.below hb).string (cap := 64)
          rw [XL] at this
          exact this
        have CY : Hid (∀ w', Below wr.heap.size wr w' → (convert 32 9 (.slice (some ⟨b1, 0, none⟩) 64 64)).run Tryd.prog w' = .ok (.string ⟨Y.toArray⟩) w') := fun w' hb => by
          have := (Q1.out.below hb).string (cap := 64)
          rw [YL] at this
          exact this
        have HL1 : Hid ((Y ++ s).length ≤ 140737488355200) := by have h : (Y ++ s).length ≤ 140737488355200 := by { simp; omega }; exact h
        obtain ⟨Z, hZ⟩ : ∃ Z, Sha.sum (Y ++ s) = Z := ⟨_, rfl⟩
        have ZL : Z.length = 32 := by rw [← hZ]; exact Sha.sum_length _
        have HZ := Lib.hid hZ
        have HL2 : Hid ((X ++ Z).length ≤ 140737488355200) := by have h : (X ++ Z).length ≤ 140737488355200 := by { simp; omega }; exact h
        have HB : Hid (∀ w', Below wr.heap.size wr w' → (Below wr.heap.size wr w' ∧ (convert 32 9 (.slice (some ⟨b2, 0, none⟩) 64 64)).run Tryd.prog w' = .ok (.string ⟨X.toArray⟩) w' ∧ (convert 32 9 (.slice (some ⟨b1, 0, none⟩) 64 64)).run Tryd.prog w' = .ok (.string ⟨Y.toArray⟩) w')) :=
          fun w' hb => ⟨hb, CX.out w' hb, CY.out w' hb⟩
        have BW : Hid (Below w.heap.size w wr) := by
          have h1 := bthen B0.out W2.out
          exact h1.trans (QT.out.below h1.size (fun q hq e => by have := L1.out; have := B0.out.size; omega))
        have hn1 : ¬ (9223372036854775807 < Y.length + s.length) := by omega
        have hn2 : ¬ (9223372036854775807 < X.length + Z.length) := by omega
        clear hX hY XL YL hZ ZL
        go_wp2_with fail
        go_region_held3 (fun w' => Below wr.heap.size wr w' ∧ (convert 32 9 (.slice (some ⟨b2, 0, none⟩) 64 64)).run Tryd.prog w' = .ok (.string ⟨X.toArray⟩) w' ∧ (convert 32 9 (.slice (some ⟨b1, 0, none⟩) 64 64)).run Tryd.prog w' = .ok (.string ⟨Y.toArray⟩) w')
          (first | exact HB.out _ (Below.refl _ _).drew | exact HB.out _ (bthen (by assumption : Below wr.heap.size wr _ ∧ _).1 (by assumption)))
          (first | (go_at_call 20; rw [bytes_append]; ((with_reducible refine (sum_any (Y ++ s) _ HL1.out).mono ?_)); rw [HZ.out]; rintro e w' ⟨rfl, hb⟩) | (go_at_call 20; rw [bytes_append]; ((with_reducible refine (sum_any (X ++ Z) _ HL2.out).mono ?_)); rintro e w' ⟨rfl, hb⟩))
        all_goals go_wp2
        all_goals go_ret
        all_goals exact ⟨by rw [HX.out, HY.out, HZ.out]; rfl, bthen BW.out (by assumption : Below wr.heap.size wr _ ∧ _).1⟩
  · have HK2 : Hid (kk = key) := by have := HKK.out; rw [if_neg hl] at this; exact this
    obtain rfl := HK2.out
    have hl' : ¬ (kk.length > 64) := hl
    go_enter Tryd.func13, Tryd.ntmps13
    go_wp2_with fail
    have B0 := Lib.hid (Below.refl w.heap.size w)
    refine (repeat_any _ _ 54 (cell_of (heap_new w _) rfl)).mono ?_
    rintro e w1 ⟨b1, rfl, hb1, hr1, hw1⟩
    have R1 := Lib.hid (hr1.list (by decide))
    have W1 := Lib.hid (bthen (balloc w _) hw1)
    have L1 := Lib.hid (Nat.le_trans (balloc w (.cells #[.int .u8 54] 5)).size hb1)
    clear hr1 hw1 hb1
    go_wp2_with fail
    refine (repeat_any _ _ 92 (cell_of (heap_new w1 _) rfl)).mono ?_
    rintro e w2 ⟨b2, rfl, hb2, hr2, hw2⟩
    have R2 := Lib.hid (hr2.list (by decide))
    have R1' := Lib.hid (R1.out.below (bthen (balloc w1 _) hw2))
    have W2 := Lib.hid (bthen W1.out (bthen (balloc w1 _) hw2))
    have h12 : b1 < b2 := by
      have h1 := R1.out.lt
      have h3 := hb2
      rw [World.size_alloc] at h3
      omega
    clear hr2 hw2 hb2
    go_wp2_with fail
    go_loopw [19] (fun i wr => ∃ k : Nat, i = .int .i64 k ∧ k ≤ kk.length ∧ RowL wr b1 (xored kk 54 k) ∧ RowL wr b2 (xored kk 92 k) ∧ Touch (fun q => q = b1 ∨ q = b2) w2 wr) (fun i _ => kk.length - (intOf i).toNat)
    case atStart => exact ⟨0, rfl, by omega, R1'.out, R2.out, Touch.refl _ _⟩
    case round =>
      obtain ⟨k, rfl, hkk, hr1, hr2, ht⟩ := hrel
      have Q1 := Lib.hid hr1
      have Q2 := Lib.hid hr2
      have QT := Lib.hid ht
      clear hr1 hr2 ht
      by_cases hkl : k < kk.length
      · have hq : (k : Int) < (kk.length : Int) := by omega
        have hq64 : (k : Int) < 64 := by omega
        go_wp2_with fail
        refine region_tail 9 (by kernel_rfl) (by kernel_rfl) ?_
        intro wy1 hwy1
        have hrow1 : RowL wy1 b1 (xored kk 54 k) := by rw [hwy1.out]; exact Q1.out
        have c1 := hrow1.cell (xored_at kk 54 k hkl h64)
        have f1 := hrow1.free
        have HW1 := Lib.hid hrow1
        clear hrow1
        simp only [List.take_succ_cons, List.take_zero, List.drop_succ_cons, List.drop_zero]
        iterate 9 still_step
        refine wpStill_nil ?_
        have HQ2 : Hid (RowL wy1 b2 (xored kk 92 k)) := by rw [hwy1.out]; exact Q2.out
        go_wp2_with fail
        refine region_tail 9 (by kernel_rfl) (by kernel_rfl) ?_
        intro wy2 hwy2
        have hrow2 : RowL wy2 b2 (xored kk 92 k) := by
          rw [hwy2.out]
          exact HQ2.out.touch (S := (· = b1)) (Touch.drew touch_set1) (by omega)
        have c2 := hrow2.cell (xored_at kk 92 k hkl h64)
        have f2 := hrow2.free
        have HW2 := Lib.hid hrow2
        clear hrow2 f1 c1
        simp only [List.take_succ_cons, List.take_zero, List.drop_succ_cons, List.drop_zero]
        iterate 9 still_step
        refine wpStill_nil ?_
        go_wp2_with fail
        go_roundw
        case rel =>
          have e1 : ((54 ^^^ kk[k] : UInt8).toNat : Int) = bits .xor .u8 54 ((kk[k]'hkl).toNat : Int) := (u8_xor 54 (kk[k]'hkl)).symm
          have e2 : ((92 ^^^ kk[k] : UInt8).toNat : Int) = bits .xor .u8 92 ((kk[k]'hkl).toNat : Int) := (u8_xor 92 (kk[k]'hkl)).symm
          have hx1 := HW1.out.set k (54 ^^^ kk[k])
          have hx2 := HW2.out.set k (92 ^^^ kk[k])
          rw [UInt8.xor_comm, xored_set kk 54 k hkl h64, UInt8.xor_comm, e1] at hx1
          rw [UInt8.xor_comm, xored_set kk 92 k hkl h64, UInt8.xor_comm, e2] at hx2
          refine ⟨k + 1, by go_num, by omega, ?_, hx2, ?_⟩
          · rw [hwy2.out]
            exact (hx1.touch (S := fun _ => False) (Touch.refl _ _).drew (fun h => h)).touch (S := (· = b2)) touch_set1 (by omega)
          · rw [hwy2.out, hwy1.out]
            exact (QT.out.drew.setCell _ (fun _ => .inl rfl)).drew.setCell _ (fun _ => .inr rfl)
        case measure => simp [intOf]; omega
      · obtain rfl : k = kk.length := by omega
        clear hkl
        obtain ⟨X, hX⟩ : ∃ X, xored kk 92 kk.length = X := ⟨_, rfl⟩
        obtain ⟨Y, hY⟩ : ∃ Y, xored kk 54 kk.length = Y := ⟨_, rfl⟩
        rw [hX] at Q2
        rw [hY] at Q1
        have HX := Lib.hid hX
        have HY := Lib.hid hY
        have XL : X.length = 64 := by rw [← hX]; exact xored_length kk 92 _ (Nat.le_refl _) h64
        have YL : Y.length = 64 := by rw [← hY]; exact xored_length kk 54 _ (Nat.le_refl _) h64
        have HXL := Lib.hid XL
        have HYL := Lib.hid YL
        have CX : Hid (∀ w', Below wr.heap.size wr w' → (convert 32 9 (.slice (some ⟨b2, 0, none⟩) 64 64)).run Tryd.prog w' = .ok (.string ⟨X.toArray⟩) w') := fun w' hb => by
          have := (Q2.out.below hb).string (cap := 64)
          rw [XL] at this
          exact this
        have CY : Hid (∀ w', Below wr.heap.size wr w' → (convert 32 9 (.slice (some ⟨b1, 0, none⟩) 64 64)).run Tryd.prog w' = .ok (.string ⟨Y.toArray⟩) w') := fun w' hb => by
          have := (Q1.out.below hb).string (cap := 64)
          rw [YL] at this
          exact this
        have HL1 : Hid ((Y ++ s).length ≤ 140737488355200) := by have h : (Y ++ s).length ≤ 140737488355200 := by { simp; omega }; exact h
        obtain ⟨Z, hZ⟩ : ∃ Z, Sha.sum (Y ++ s) = Z := ⟨_, rfl⟩
        have ZL : Z.length = 32 := by rw [← hZ]; exact Sha.sum_length _
        have HZ := Lib.hid hZ
        have HL2 : Hid ((X ++ Z).length ≤ 140737488355200) := by have h : (X ++ Z).length ≤ 140737488355200 := by { simp; omega }; exact h
        have HB : Hid (∀ w', Below wr.heap.size wr w' → (Below wr.heap.size wr w' ∧ (convert 32 9 (.slice (some ⟨b2, 0, none⟩) 64 64)).run Tryd.prog w' = .ok (.string ⟨X.toArray⟩) w' ∧ (convert 32 9 (.slice (some ⟨b1, 0, none⟩) 64 64)).run Tryd.prog w' = .ok (.string ⟨Y.toArray⟩) w')) :=
          fun w' hb => ⟨hb, CX.out w' hb, CY.out w' hb⟩
        have BW : Hid (Below w.heap.size w wr) := by
          have h1 := bthen B0.out W2.out
          exact h1.trans (QT.out.below h1.size (fun q hq e => by have := L1.out; have := B0.out.size; omega))
        have hn1 : ¬ (9223372036854775807 < Y.length + s.length) := by omega
        have hn2 : ¬ (9223372036854775807 < X.length + Z.length) := by omega
        clear hX hY XL YL hZ ZL
        go_wp2_with fail
        go_region_held3 (fun w' => Below wr.heap.size wr w' ∧ (convert 32 9 (.slice (some ⟨b2, 0, none⟩) 64 64)).run Tryd.prog w' = .ok (.string ⟨X.toArray⟩) w' ∧ (convert 32 9 (.slice (some ⟨b1, 0, none⟩) 64 64)).run Tryd.prog w' = .ok (.string ⟨Y.toArray⟩) w')
          (first | exact HB.out _ (Below.refl _ _).drew | exact HB.out _ (bthen (by assumption : Below wr.heap.size wr _ ∧ _).1 (by assumption)))
          (first | (go_at_call 20; rw [bytes_append]; ((with_reducible refine (sum_any (Y ++ s) _ HL1.out).mono ?_)); rw [HZ.out]; rintro e w' ⟨rfl, hb⟩) | (go_at_call 20; rw [bytes_append]; ((with_reducible refine (sum_any (X ++ Z) _ HL2.out).mono ?_)); rintro e w' ⟨rfl, hb⟩))
        all_goals go_wp2
        all_goals go_ret
        all_goals exact ⟨by rw [HX.out, HY.out, HZ.out]; rfl, bthen BW.out (by assumption : Below wr.heap.size wr _ ∧ _).1⟩
theorem mac_any (key s : List UInt8) (w : World) (hk : key.length ≤ 140737488355200) (hs : s.length ≤ 140737488355000) :
    Calls Tryd.prog 13 #[.string ⟨key.toArray⟩, .string ⟨s.toArray⟩] w fun e w' => e = .returned (.string ⟨(Sha.mac key s).toArray⟩) ∧ Below w.heap.size w w' := by
  refine (mac_kk key _ s w hk hs rfl).mono ?_
  rintro e w' ⟨rfl, hb⟩
  refine ⟨?_, hb⟩
  rw [xored_end, xored_end]
  rfl
end Go.Proofs.YtommbdlkmkphpaaDoor

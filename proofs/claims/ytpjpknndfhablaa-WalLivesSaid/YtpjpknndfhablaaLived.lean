/- Walk of the law's lived: a life on an open log. -/
import Derived.Test.YtpjpknndfhablaaLiveM
import Derived.Deep.CutRange
namespace Go.Proofs.Ytpjpknndfhablaa
open Go.RowKit
/-- What lived leaves: the states that may be told, and a log that lives on one of them, or a disk without power on which one of them stands. -/
def LivedLeft (w0 w : World) (c x : Nat) (e : Ending) (w' : World) : Prop :=
  ∃ vm ml, e = .returned (.tuple #[vm, .bool true]) ∧ States w' vm ml ∧ (∀ y ∈ ml, y.2.length ≤ 200000) ∧ ml.length ≤ 200000 ∧ KeepsOff logT w w' ∧
    ((∃ l d snap rs m M, One w0 w' x c l d M ∧ Wal.Live l d snap rs m ∧ ml = mays snap rs m) ∨
     (∃ d, DiskNew w0 w' c d 0 ∧ d.dead = true ∧ ∃ f g sn r, (sn, r) ∈ ml ∧ Wal.Sits d f g sn r))
/-- What stands in the loop. -/
structure LivedAt (w0 w wr : World) (c x n i : Nat) (base B6 B7 : Nat) (vm : Value) (life : Array Value) : Prop where
  out : ∃ snap rs m l d M rv ml, Wal.Live l d snap rs m ∧ (d.armed = 0 ∨ i = n) ∧ One w0 wr x c l d M ∧ M ≤ i + 1 ∧ Fit w wr base B6 B7 (snap, rs) rv vm ml life ∧ ml.map (·.1) = mays snap rs m
theorem DiskNew.keep {w0 w w' : World} {c : Nat} {d : DS} {m : Nat} (h : DiskNew w0 w c d m) {S : Nat → Prop} (ht : Touch S w w') (hS : ∀ k, S k → w0.heap.size ≤ k) {ts : List TypeId} (hty : Typed ts w S) (h1 : 103 ∉ ts) (h2 : 106 ∉ ts) : DiskNew w0 w' c d m := by
  obtain ⟨hc, hb, rb, hd, hr⟩ := h
  exact ⟨hc, hb.trans (ht.below hb.size (fun k hk e => by have := hS k e; omega)), rb, hd.keepsOff (.of_touch hty ht) h1 h2, hr⟩
theorem One.keep {w0 w w' : World} {x c : Nat} {l : Wal.LS} {d : DS} {m : Nat} (h : One w0 w x c l d m) {S : Nat → Prop} (ht : Touch S w w') (hS : ∀ k, S k → w0.heap.size ≤ k) {ts : List TypeId} (hty : Typed ts w S) (h1 : 103 ∉ ts) (h2 : 106 ∉ ts) (h3 : 113 ∉ ts) : One w0 w' x c l d m :=
  ⟨h.x0, h.log.keepsOff (.of_touch hty ht) h3, h.disk.keep ht hS hty h1 h2⟩
theorem touch_two (w : World) (N : Nat) (u v : Value) : Touch (· = N) w ((w.setCell ⟨N, 0, none⟩ u).setCell ⟨N, 1, none⟩ v) := ((Touch.refl (· = N) w).setCell (a := ⟨N, 0, none⟩) _ (fun _ => rfl)).setCell (a := ⟨N, 1, none⟩) _ (fun _ => rfl)
theorem typed_one {w : World} {N : Nat} {c : Array Value} {t : TypeId} {f : Nat × Nat} (h : w.heap[N]? = some (.cells c t f)) : Typed [t] w (· = N) := by rintro k rfl; exact ⟨_, _, _, h, by simp⟩
theorem few_all {ml : List (StV × Value)} {snap : List UInt8} {rs : List (List UInt8)} {m : Nat} (h : ml.map (·.1) = mays snap rs m) (hr : rs.length ≤ 131072) {p : StV × Value} (hp : p.1.2.length ≤ 200000) : ∀ z ∈ (ml ++ [p]).map (·.1), z.2.length ≤ 200000 := by
  intro z hz
  rw [List.map_append, h] at hz
  rcases List.mem_append.1 hz with hz | hz
  · have := mays_len _ _ _ z hz; omega
  · simp at hz; subst hz; exact hp
theorem check_sits {l : Wal.LS} {d : DS} {snap s : List UInt8} {rs : List (List UInt8)} {m : Nat} {ml : List (StV × Value)} {ru : Value} (h : (∃ j, m ≤ j ∧ j ≤ rs.length ∧ Wal.Sits d l.f l.g snap (rs.take j)) ∨ Wal.Sits d (!l.f) (l.g + 1) s []) (hm : ml.map (·.1) = mays snap rs m) :
    ∃ f g sn r, (sn, r) ∈ (ml ++ [((s, ([] : List (List UInt8))), ru)]).map (·.1) ∧ Wal.Sits d f g sn r := by
  rw [List.map_append, hm]
  rcases h with ⟨j, h1, h2, h3⟩ | h
  · exact ⟨_, _, _, _, List.mem_append_left _ (mays_mem snap rs m j h1 h2), h3⟩
  · exact ⟨_, _, _, _, List.mem_append_right _ (by simp), h⟩
theorem kind_cases (k : Int) : (k < 0 ∨ 2 < k) ∨ k = 0 ∨ k = 1 ∨ k = 2 := by omega
set_option maxHeartbeats 8000000 in
set_option maxRecDepth 100000 in
theorem lived_any {w0 w : World} {c x M : Nat} {l : Wal.LS} {d : DS} {y : StV} {rv : Value} (h : One w0 w x c l d M) (hM : M ≤ 1) (hlv : Wal.Live l d y.1 y.2 y.2.length) (har : d.armed = 0) (hrow : Row w rv y.2)
    (ao : Option Addr) (ca : Nat) (sc : List OpV) (hS : OpsAt w0 ao sc) (N K A : Int) (hN : N ≤ 9223372036854775807) (hK : K ≤ 9223372036854775807) :
    Calls Try.prog 47 #[.pointer (some ⟨c, 0, none⟩), .pointer (some ⟨x, 0, none⟩), .agg #[.string ⟨y.1.toArray⟩, rv], .agg #[.slice ao sc.length ca, .int .i64 N, .int .i64 K, .int .i64 A]] w (LivedLeft w0 w c x) := by
  have HW0 : Hid (w0.heap.size ≤ w.heap.size) := Lib.hid h.disk.2.1.size
  have HO := Lib.hid h
  have HLV := Lib.hid hlv
  have HAR := Lib.hid har
  have HRW := Lib.hid hrow
  have HS := Lib.hid hS
  have hsl := hS.len
  obtain ⟨life, hlife⟩ : ∃ life : Array Value, #[.slice ao sc.length ca, .int .i64 N, .int .i64 K, .int .i64 A] = life := ⟨_, rfl⟩
  have HLI := Lib.hid hlife
  clear h hlv har hrow hS hlife
  go_enter Try.func47, Try.ntmps47
  go_wp2
  obtain ⟨W, hW⟩ : ∃ W, ((w.alloc (.cells #[.string ⟨y.1.toArray⟩, rv] 79)).alloc (.cells #[.slice ao sc.length ca, .int .i64 N, .int .i64 K, .int .i64 A] 82)).alloc (.cells #[.string ⟨y.1.toArray⟩, rv] 79) = W := ⟨_, rfl⟩
  rw [hW]
  rw [HLI.out] at hW
  obtain ⟨hfit, hb⟩ := fit_start hW HRW.out
  have HST : Hid (LivedAt w0 w W c x sc.length 0 (w.heap.size + 1 + 1) w.heap.size (w.heap.size + 1) (.slice (some ⟨w.heap.size + 1 + 1, 0, none⟩) 1 1) life) :=
    ⟨y.1, y.2, y.2.length, l, d, M, rv, _, HLV.out, .inl HAR.out, HO.out.below hb, by omega, hfit, by rw [mays_all]; rfl⟩
  clear hW hfit hb
  obtain ⟨B6, hB6⟩ : ∃ B, w.heap.size = B := ⟨_, rfl⟩
  rw [hB6] at HST ⊢
  obtain ⟨B7, hB7⟩ : ∃ B, B6 + 1 = B := ⟨_, rfl⟩
  have hne67 : ¬ B6 = B7 := by omega
  rw [hB7] at HST ⊢
  clear hB6 hB7
  go_loopw [10, 11] (fun vm i wr => ∃ j : Nat, i = .int .i64 j ∧ j ≤ sc.length ∧ LivedAt w0 w wr c x sc.length j (B7 + 1) B6 B7 vm life) (fun _ i _ => sc.length - (intOf i).toNat)
  case atStart => exact ⟨0, rfl, Nat.zero_le _, HST.out⟩
  case round =>
    clear HST HO HLV HAR HRW
    obtain ⟨j, rfl, hj, snap, rs, m, l, d, M, rv, ml, hlv, har, hone, hMj, hfit, hml⟩ := hrel
    obtain ⟨gm, cm, _, rfl, _⟩ := hfit.slice
    have HLV := Lib.hid hlv
    have HAR := Lib.hid har
    have HO := Lib.hid hone
    have HF := Lib.hid hfit
    have HML := Lib.hid hml
    have hfew := (hlv.few' hone.disk.ok).1
    have hmll : ml.length ≤ 131073 := by have := congrArg List.length hml; simp [mays] at this; omega
    have hlf := hfit.b7
    rw [← HLI.out] at hlf
    have c70 := cell_of (i := 0) hlf rfl
    have c71 := cell_of (i := 1) hlf rfl
    have c72 := cell_of (i := 2) hlf rfl
    have hlt7 := heap_lt hlf
    clear hlv har hone hfit hml hlf
    by_cases hlt : j < sc.length
    · obtain ⟨o, ho⟩ : ∃ o, sc[j]? = some o := ⟨_, List.getElem?_eq_getElem hlt⟩
      obtain ⟨on, k, a, b, s⟩ := o
      obtain ⟨bb, off, rfl, hbl, k0, k1, k2, k3, k4⟩ := HS.out.cell j _ ho
      obtain ⟨f1, _, _, _⟩ := HS.out.fits _ (List.mem_of_getElem? ho)
      simp only at k0 k1 k2 k3 k4 f1
      have hold := HO.out.disk.2.1
      have q0 := (hold.cell (p := ⟨bb, off + j * 5, none⟩) hbl).trans k0
      have q1 := (hold.cell (p := ⟨bb, off + j * 5 + 1, none⟩) hbl).trans k1
      have q2 := (hold.cell (p := ⟨bb, off + j * 5 + 2, none⟩) hbl).trans k2
      have q3 := (hold.cell (p := ⟨bb, off + j * 5 + 3, none⟩) hbl).trans k3
      have q4 := (hold.cell (p := ⟨bb, off + j * 5 + 4, none⟩) hbl).trans k4
      clear ho k0 k1 k2 k3 k4 hold
      rcases kind_cases k with hk | rfl | rfl | rfl
      · rcases hk with hk | hk
        · go_wp2
          go_roundw
          case rel => exact ⟨j + 1, by go_num, by omega, ⟨snap, rs, m, l, d, M, rv, ml, HLV.out, .inl (HAR.out.resolve_right (by omega)), HO.out.below (balloc _ _), by omega, HF.out.below (balloc _ _), HML.out⟩⟩
          case measure => simp [intOf]; omega
        · go_wp2
          go_roundw
          case rel => exact ⟨j + 1, by go_num, by omega, ⟨snap, rs, m, l, d, M, rv, ml, HLV.out, .inl (HAR.out.resolve_right (by omega)), HO.out.below (balloc _ _), by omega, HF.out.below (balloc _ _), HML.out⟩⟩
          case measure => simp [intOf]; omega
      · go_upto_region 8 with fail
        obtain ⟨B12, hB12⟩ : ∃ B, wr.heap.size = B := ⟨_, rfl⟩
        obtain ⟨wa, hwa⟩ : ∃ W, wr.alloc (.cells #[.int .i64 on, .int .i64 0, .int .i64 a, .int .i64 b, .string ⟨s.toArray⟩] 65) = W := ⟨_, rfl⟩
        have hop := heap_new wr (.cells #[.int .i64 on, .int .i64 0, .int .i64 a, .int .i64 b, .string ⟨s.toArray⟩] 65)
        have hba := balloc wr (.cells #[.int .i64 on, .int .i64 0, .int .i64 a, .int .i64 b, .string ⟨s.toArray⟩] 65)
        rw [hB12] at hlt7
        rw [hwa, hB12] at hop ⊢
        rw [hwa] at hba
        have HOP := Lib.hid hop
        have HOA := Lib.hid (HO.out.below hba)
        have HFA := Lib.hid (HF.out.below hba)
        have hlf := HFA.out.b7
        rw [← HLI.out] at hlf
        have d71 := cell_of (i := 1) hlf rfl
        have d72 := cell_of (i := 2) hlf rfl
        clear hop hba hlf hB12 hwa c70 c71 c72 q0 q1 q2 q3 q4
        obtain ⟨lb, hlb⟩ : ∃ lb : Bool, ((j : Int) == (sc.length : Int) - 1) = lb := ⟨_, rfl⟩
        rw [hlb]
        have HLB := Lib.hid hlb
        clear hlb
        go_cut [60] from 19 to 112 (fun v wx => v = .bool false ∧ ∃ d1 : DS, One w0 wx x c l d1 M ∧ Wal.Live l d1 snap rs m ∧ (d1.armed = 0 ∨ (j + 1 = sc.length ∧ 0 < N)) ∧ Fit w wx (B7 + 1) B6 B7 (snap, rs) rv (.slice (some ⟨gm, 0, none⟩) ml.length cm) ml life ∧ wx.heap[B12]? = some (.cells #[.int .i64 on, .int .i64 0, .int .i64 a, .int .i64 b, .string ⟨s.toArray⟩] 65 (0, 0)))
        case first =>
          have hzero : d.armed = 0 := HAR.out.resolve_right (by omega)
          have HDONE : Hid (One w0 wa x c l d M ∧ Wal.Live l d snap rs m ∧ (d.armed = 0 ∨ (j + 1 = sc.length ∧ 0 < N)) ∧ Fit w wa (B7 + 1) B6 B7 (snap, rs) rv (.slice (some ⟨gm, 0, none⟩) ml.length cm) ml life ∧ wa.heap[B12]? = some (.cells #[.int .i64 on, .int .i64 0, .int .i64 a, .int .i64 b, .string ⟨s.toArray⟩] 65 (0, 0))) := ⟨HOA.out, HLV.out, .inl hzero, HFA.out, HOP.out⟩
          cases lb with
          | true =>
            have hl : j + 1 = sc.length := by have := HLB.out; simp at this; omega
            by_cases hn : 0 < N
            · have HARM : Hid (∀ KK : Int, 0 ≤ KK → d.arm N KK = ({ d with armed := N.toNat, keep := KK.toNat }, 0)) := Lib.hid (fun KK hk => arm_ok HLV.out.dd (by omega) hk)
              by_cases hk : 0 < K
              · go_wp2_with fail
                refine (arm_newO HOA.out.disk N K (by omega) (by omega)).mono ?_
                rw [HARM.out K (by omega)]
                rintro e wb ⟨rfl, hb1, hb2⟩
                have HB1 : Hid (One w0 wb x c l { d with armed := N.toNat, keep := K.toNat } M) := ⟨HOA.out.x0, HOA.out.log.keepsOff hb2 (by decide), hb1⟩
                have HB2 := Lib.hid (keeps_diskT hb2)
                clear hb1 hb2
                go_wp2
                go_meet
                case rel => exact ⟨rfl, _, HB1.out, HLV.out.arm _ _, .inr ⟨hl, hn⟩, HFA.out.onward HB2.out, HB2.out.cells HOP.out (by decide)⟩
              · go_wp2_with fail
                refine (arm_newO HOA.out.disk N 0 (by omega) (by omega)).mono ?_
                rw [HARM.out 0 (by omega)]
                rintro e wb ⟨rfl, hb1, hb2⟩
                have HB1 : Hid (One w0 wb x c l { d with armed := N.toNat, keep := (0 : Int).toNat } M) := ⟨HOA.out.x0, HOA.out.log.keepsOff hb2 (by decide), hb1⟩
                have HB2 := Lib.hid (keeps_diskT hb2)
                clear hb1 hb2
                go_wp2
                go_meet
                case rel => exact ⟨rfl, _, HB1.out, HLV.out.arm _ _, .inr ⟨hl, hn⟩, HFA.out.onward HB2.out, HB2.out.cells HOP.out (by decide)⟩
            · go_wp2
              go_meet
              case rel => exact ⟨rfl, d, HDONE.out⟩
          | false =>
            go_wp2
            go_meet
            case rel => exact ⟨rfl, d, HDONE.out⟩
        case rest =>
          obtain ⟨rfl, d1, g1, g2, g3, g4, g5⟩ := hcut
          clear d71 d72 hlt7
          have HO1 := Lib.hid g1
          have HLV1 := Lib.hid g2
          have HAR1 := Lib.hid g3
          have HF1 := Lib.hid g4
          have HOP1 := Lib.hid g5
          have o1 := cell_of (i := 1) g5 rfl
          have o4 := cell_of (i := 4) g5 rfl
          have hlf := HF1.out.b7
          rw [← HLI.out] at hlf
          clear hlf
          have HLN : Hid (l.n ≤ 4611686018427387904) := Lib.hid (by rw [HLV1.out.n]; omega)
          have HLG : Hid (l.g ≤ 4611686018427387904) := Lib.hid HLV1.out.g2
          clear g1 g2 g3 g4 g5 HOA HFA HOP
          obtain ⟨r, hr⟩ : ∃ r, Wal.append l d1 s = r := ⟨_, rfl⟩
          have HR := Lib.hid hr
          clear hr
          go_wp2_with fail
          refine (append_one HO1.out s (by omega) f1 HLN.out).mono ?_
          rw [HR.out]
          rintro e wd ⟨rfl, hd1, hd2, hd3⟩
          have HO2 := Lib.hid hd1
          have HF2 := Lib.hid (HF1.out.onward hd2)
          have HOP2 := Lib.hid (hd2.cells HOP1.out (by decide))
          have HZ := Lib.hid hd3
          have o0 := cell_of (i := 0) HOP2.out rfl
          have p1 := cell_of (i := 1) HOP2.out rfl
          have o2 := cell_of (i := 2) HOP2.out rfl
          have o3 := cell_of (i := 3) HOP2.out rfl
          have p4 := cell_of (i := 4) HOP2.out rfl
          obtain ⟨b60, b61, _, _⟩ := cells2 HF2.out.b6
          clear hd1 hd2 hd3 o1 o4
          rcases Wal.append_live HLV1.out s HR.out with ⟨h1, h2, h3⟩ | ⟨h0, hlive, harm⟩ | ⟨h0, hld, hdd, ha, jj, j1, j2, hsit⟩
          · obtain ⟨n0, n2⟩ : (r.2.2 != 0) = true ∧ (r.2.2 != 2) = true := by rcases h1 with h | h <;> rw [h] <;> exact ⟨rfl, rfl⟩
            have hone : One w0 wd x c l d1 (M + 1) := by have := HO2.out; rw [h2, h3] at this; exact this
            have HONE := Lib.hid hone
            clear h1 h2 h3 hone
            go_wp2
            go_roundw
            case rel => exact ⟨j + 1, by go_num, by omega, ⟨snap, rs, m, l, d1, M + 1, rv, ml, HLV1.out, HAR1.out.imp id (fun h => h.1), HONE.out, by omega, HF2.out, HML.out⟩⟩
            case measure => simp [intOf]; omega
          · have HLV2 := Lib.hid hlive
            have HAR2 := Lib.hid harm
            clear hlive harm
            rw [h0]
            go_wp2_with fail
            refine (next_append wd (snap, rs) rv on a b s HF2.out.row (by simp only; omega)).mono ?_
            rintro e we ⟨⟨rv', rfl, hrow'⟩, hbn⟩
            have HF3 := Lib.hid (HF2.out.below hbn)
            have HRW := Lib.hid hrow'
            have H3 := Lib.hid (HO2.out.below hbn)
            obtain ⟨g', cp', _, rfl, _⟩ := hrow'
            obtain ⟨rl, hrl⟩ : ∃ n : Nat, (rs ++ [s] : List (List UInt8)).length = n := ⟨_, rfl⟩
            rw [hrl] at HRW ⊢
            clear hrl
            obtain ⟨gm', cm', _, hvm, _, hgm, _⟩ := HF3.out.slice
            cases hvm
            have hgmlt := heap_lt hgm
            obtain ⟨c60, c61, c6f, hlt6⟩ := cells2 HF3.out.b6
            have c60f := c6f 0
            have c61f := c6f 1
            clear hbn o0 p1 o2 o3 p4 c6f b60 b61 hgm
            go_upto_region 21 with fail
            obtain ⟨B15, hB15⟩ : ∃ B, we.heap.size = B := ⟨_, rfl⟩
            obtain ⟨wf, hwf⟩ : ∃ W, we.alloc (.cells #[.string ⟨(snap).toArray⟩, .slice (some ⟨g', 0, none⟩) rl cp'] 79) = W := ⟨_, rfl⟩
            have hn15 := heap_new we (.cells #[.string ⟨(snap).toArray⟩, .slice (some ⟨g', 0, none⟩) rl cp'] 79)
            have hbf := balloc we (.cells #[.string ⟨(snap).toArray⟩, .slice (some ⟨g', 0, none⟩) rl cp'] 79)
            rw [hB15] at hgmlt hlt6
            rw [hwf, hB15] at hn15 ⊢
            rw [hwf] at hbf
            have HF4 := Lib.hid (HF3.out.below hbf)
            have HRW4 := Lib.hid (HRW.out.below hbf)
            have H4 := Lib.hid (H3.out.below hbf)
            have N15 := Lib.hid hn15
            obtain ⟨x0, x1, x15f, hlt15⟩ := cells2 hn15
            obtain ⟨e60, e61, e6f, _⟩ := cells2 HF4.out.b6
            have e60f := e6f 0
            have e61f := e6f 1
            have hne15 : ¬ B15 = B6 := by omega
            have hne15' : ¬ B6 = B15 := by omega
            clear hB15 hwf hn15 hbf c60 c61 c60f c61f x15f e6f
            go_upto_region 22 with fail
            obtain ⟨wg, hwg⟩ : ∃ W, (wf.setCell ⟨B6, 0, none⟩ (.string ⟨(snap).toArray⟩)).setCell ⟨B6, 1, none⟩ (.slice (some ⟨g', 0, none⟩) rl cp') = W := ⟨_, rfl⟩
            have htw := touch_two wf B6 (.string ⟨(snap).toArray⟩) (.slice (some ⟨g', 0, none⟩) rl cp')
            have hfg := HF4.out.turn (y := (snap, rs ++ [s])) HRW4.out hne67
            have hty := typed_one HF4.out.b6
            dsimp only at hfg
            rw [hwg] at htw hfg ⊢
            have HRW5 := Lib.hid (HRW4.out.keepsOff (.of_touch hty htw) (by decide))
            have H5 := Lib.hid (H4.out.keep htw (fun k hk => by subst hk; exact Nat.le_trans HW0.out HF4.out.lo.1) hty (by decide) (by decide) (by decide))
            have HF5 := Lib.hid hfg
            have N15' := Lib.hid ((htw.block B15 hlt15 hne15).trans N15.out)
            obtain ⟨z0, z1, _, hlt15'⟩ := cells2 N15'.out
            clear htw hfg hty hwg x0 x1 e60 e61 e60f e61f
            go_wp2_with (first | (at_builtin; go_must (refine wpList_append_own2 _ rfl (.tmp 106) (.tmp 108) 83 rfl (B7 + 1) 79 2 40 _ Try.stInfo Try.underlying83 rfl (by decide) (.slice (some ⟨gm, 0, none⟩) ml.length cm) ml.length (stRow ml) rfl (HF5.out.below (balloc wg _)).own ⟨wg.heap.size, 0, none⟩ 1 1 [.string ⟨(snap).toArray⟩, .slice (some ⟨g', 0, none⟩) rl cp'] rfl rfl (fun i u hi => by rw [addr_add, Nat.zero_add]; exact cell_of (heap_new wg _) (by simpa using hi)) (by intro u hu; simp at hu; rcases hu with rfl | rfl <;> rfl) (by unfold maxLen; omega) (by omega) ((HF5.out.below (balloc wg _)).base) ?_; intro vm' wh ho hg _; have HOH := Lib.hid ho; have HGH := Lib.hid hg; clear ho hg)))
            have HF6 := Lib.hid ((HF5.out.below (balloc wg (.cells #[.string ⟨(snap).toArray⟩, .slice (some ⟨g', 0, none⟩) rl cp'] 79))).push (y := (snap, rs ++ [s])) (HRW5.out.below (balloc wg _)) HOH.out HGH.out)
            have htg := touch_of_grown HGH.out
            have htyg : Typed [79] (wg.alloc (.cells #[.string ⟨(snap).toArray⟩, .slice (some ⟨g', 0, none⟩) rl cp'] 79)) (fun k => (Value.slice (some ⟨gm, 0, none⟩) ml.length cm).ownBlock = some k) := typed_own (HF5.out.below (balloc wg _)).own (by simp)
            have H6 := Lib.hid ((H5.out.below (balloc wg _)).keep htg (fun k hk => by have h1 := own_lo' (HF5.out.below (balloc wg (.cells #[.string ⟨(snap).toArray⟩, .slice (some ⟨g', 0, none⟩) rl cp'] 79))).own k hk; have h2 := HF5.out.lo; have h3 := HW0.out; omega) htyg (by decide) (by decide) (by decide))
            clear htg htyg z0 z1
            go_wp2
            go_roundw
            case rel => exact ⟨j + 1, by go_num, by omega, ⟨snap, rs ++ [s], m, r.1, r.2.1, M + 1, _, _, HLV2.out, HAR1.out.elim (fun h => .inl (HAR2.out h)) (fun h => .inr h.1), H6.out, by omega, HF6.out, by rw [List.map_append, HML.out, mays_snoc _ _ _ _ HLV1.out.le]; rfl⟩⟩
            case measure => simp [intOf]; omega
          · have HZD := Lib.hid (HZ.out hdd HLV1.out.dd)
            have LOG2 := Lib.hid HO2.out.log
            rw [h0]
            go_wp2_with fail
            refine (next_append wd (snap, rs) rv on a b s HF2.out.row (by simp only; omega)).mono ?_
            rintro e we ⟨⟨rv', rfl, hrow'⟩, hbn⟩
            have HF3 := Lib.hid (HF2.out.below hbn)
            have HRW := Lib.hid hrow'
            have H3 := Lib.hid (HZD.out.below hbn)
            have LOG3 := Lib.hid (LOG2.out.below hbn)
            obtain ⟨g', cp', _, rfl, _⟩ := hrow'
            obtain ⟨rl, hrl⟩ : ∃ n : Nat, (rs ++ [s] : List (List UInt8)).length = n := ⟨_, rfl⟩
            rw [hrl] at HRW ⊢
            clear hrl
            obtain ⟨gm', cm', _, hvm, _, hgm, _⟩ := HF3.out.slice
            cases hvm
            have hgmlt := heap_lt hgm
            obtain ⟨c60, c61, c6f, hlt6⟩ := cells2 HF3.out.b6
            have c60f := c6f 0
            have c61f := c6f 1
            clear hbn o0 p1 o2 o3 p4 c6f b60 b61 hgm
            go_upto_region 20 with fail
            obtain ⟨B15, hB15⟩ : ∃ B, we.heap.size = B := ⟨_, rfl⟩
            obtain ⟨wf, hwf⟩ : ∃ W, we.alloc (.cells #[.string ⟨(snap).toArray⟩, .slice (some ⟨g', 0, none⟩) rl cp'] 79) = W := ⟨_, rfl⟩
            have hn15 := heap_new we (.cells #[.string ⟨(snap).toArray⟩, .slice (some ⟨g', 0, none⟩) rl cp'] 79)
            have hbf := balloc we (.cells #[.string ⟨(snap).toArray⟩, .slice (some ⟨g', 0, none⟩) rl cp'] 79)
            rw [hB15] at hgmlt hlt6
            rw [hwf, hB15] at hn15 ⊢
            rw [hwf] at hbf
            have HF4 := Lib.hid (HF3.out.below hbf)
            have HRW4 := Lib.hid (HRW.out.below hbf)
            have H4 := Lib.hid (H3.out.below hbf)
            have LOGx := Lib.hid (LOG3.out.below hbf)
            have N15 := Lib.hid hn15
            obtain ⟨x0, x1, x15f, hlt15⟩ := cells2 hn15
            obtain ⟨e60, e61, e6f, _⟩ := cells2 HF4.out.b6
            have e60f := e6f 0
            have e61f := e6f 1
            have hne15 : ¬ B15 = B6 := by omega
            have hne15' : ¬ B6 = B15 := by omega
            clear hB15 hwf hn15 hbf c60 c61 c60f c61f x15f e6f
            obtain ⟨hl, hn⟩ : j + 1 = sc.length ∧ 0 < N := HAR1.out.resolve_left ha
            obtain rfl : lb = true := by have := HLB.out; rw [← this]; simp; omega
            go_wp2_with (first | (at_builtin; go_must (refine wpList_append_own2 _ rfl (.tmp 91) (.tmp 93) 83 rfl (B7 + 1) 79 2 40 _ Try.stInfo Try.underlying83 rfl (by decide) (.slice (some ⟨gm, 0, none⟩) ml.length cm) ml.length (stRow ml) rfl (HF4.out.below (balloc wf _)).own ⟨wf.heap.size, 0, none⟩ 1 1 [.string ⟨(snap).toArray⟩, .slice (some ⟨g', 0, none⟩) rl cp'] rfl rfl (fun i u hi => by rw [addr_add, Nat.zero_add]; exact cell_of (heap_new wf _) (by simpa using hi)) (by intro u hu; simp at hu; rcases hu with rfl | rfl <;> rfl) (by unfold maxLen; omega) (by omega) ((HF4.out.below (balloc wf _)).base) ?_; intro vm' wh ho hg _; have HOH := Lib.hid ho; have HGH := Lib.hid hg; clear ho hg; have HF6 := Lib.hid ((HF4.out.below (balloc wf (.cells #[.string ⟨(snap).toArray⟩, .slice (some ⟨g', 0, none⟩) rl cp'] 79))).push (y := (snap, rs ++ [s])) (HRW4.out.below (balloc wf _)) HOH.out HGH.out); have hlf := HF6.out.b7; rw [← HLI.out] at hlf; have d71 := cell_of (i := 1) hlf rfl; clear hlf)))
            have htg := touch_of_grown HGH.out
            have htyg : Typed [79] (wf.alloc (.cells #[.string ⟨(snap).toArray⟩, .slice (some ⟨g', 0, none⟩) rl cp'] 79)) (fun k => (Value.slice (some ⟨gm, 0, none⟩) ml.length cm).ownBlock = some k) := typed_own (HF4.out.below (balloc wf _)).own (by simp)
            have hlog : LogAt wh x c r.1 := (LOGx.out.below (balloc wf _)).keepsOff (.of_touch htyg htg) (by decide)
            have H6 := Lib.hid ((H4.out.below (balloc wf _)).keep htg (fun k hk => by have h1 := own_lo' (HF4.out.below (balloc wf (.cells #[.string ⟨(snap).toArray⟩, .slice (some ⟨g', 0, none⟩) rl cp'] 79))).own k hk; have h2 := HF4.out.lo; have h3 := HW0.out; omega) htyg (by decide) (by decide))
            clear htg htyg
            refine (wdead_any x c wh r.1 hlog).mono ?_
            rw [hld]
            rintro e wi ⟨rfl, rfl⟩
            go_wp2
            refine bodyPost_ret (results_tmp2 rfl _ _ _) rfl ?_
            exact ⟨_, _, rfl, HF6.out.states, fun z hz => few_all HML.out hfew (by simp <;> omega) z hz, by rw [List.length_map, List.length_append]; simp; omega, HF6.out.keeps, .inr ⟨r.2.1, H6.out, hdd, _, _, _, _, (by rw [List.map_append, HML.out]; exact (mays_snoc snap rs s m HLV1.out.le) ▸ mays_mem snap (rs ++ [s]) m jj j1 (by simp; omega)), hsit⟩⟩
      · go_upto_region 8 with fail
        obtain ⟨B12, hB12⟩ : ∃ B, wr.heap.size = B := ⟨_, rfl⟩
        obtain ⟨wa, hwa⟩ : ∃ W, wr.alloc (.cells #[.int .i64 on, .int .i64 1, .int .i64 a, .int .i64 b, .string ⟨s.toArray⟩] 65) = W := ⟨_, rfl⟩
        have hop := heap_new wr (.cells #[.int .i64 on, .int .i64 1, .int .i64 a, .int .i64 b, .string ⟨s.toArray⟩] 65)
        have hba := balloc wr (.cells #[.int .i64 on, .int .i64 1, .int .i64 a, .int .i64 b, .string ⟨s.toArray⟩] 65)
        rw [hB12] at hlt7
        rw [hwa, hB12] at hop ⊢
        rw [hwa] at hba
        have HOP := Lib.hid hop
        have HOA := Lib.hid (HO.out.below hba)
        have HFA := Lib.hid (HF.out.below hba)
        have hlf := HFA.out.b7
        rw [← HLI.out] at hlf
        have d71 := cell_of (i := 1) hlf rfl
        have d72 := cell_of (i := 2) hlf rfl
        clear hop hba hlf hB12 hwa c70 c71 c72 q0 q1 q2 q3 q4
        obtain ⟨lb, hlb⟩ : ∃ lb : Bool, ((j : Int) == (sc.length : Int) - 1) = lb := ⟨_, rfl⟩
        rw [hlb]
        have HLB := Lib.hid hlb
        clear hlb
        go_cut [60] from 19 to 112 (fun v wx => v = .bool false ∧ ∃ d1 : DS, One w0 wx x c l d1 M ∧ Wal.Live l d1 snap rs m ∧ (d1.armed = 0 ∨ (j + 1 = sc.length ∧ 0 < N)) ∧ Fit w wx (B7 + 1) B6 B7 (snap, rs) rv (.slice (some ⟨gm, 0, none⟩) ml.length cm) ml life ∧ wx.heap[B12]? = some (.cells #[.int .i64 on, .int .i64 1, .int .i64 a, .int .i64 b, .string ⟨s.toArray⟩] 65 (0, 0)))
        case first =>
          have hzero : d.armed = 0 := HAR.out.resolve_right (by omega)
          have HDONE : Hid (One w0 wa x c l d M ∧ Wal.Live l d snap rs m ∧ (d.armed = 0 ∨ (j + 1 = sc.length ∧ 0 < N)) ∧ Fit w wa (B7 + 1) B6 B7 (snap, rs) rv (.slice (some ⟨gm, 0, none⟩) ml.length cm) ml life ∧ wa.heap[B12]? = some (.cells #[.int .i64 on, .int .i64 1, .int .i64 a, .int .i64 b, .string ⟨s.toArray⟩] 65 (0, 0))) := ⟨HOA.out, HLV.out, .inl hzero, HFA.out, HOP.out⟩
          cases lb with
          | true =>
            have hl : j + 1 = sc.length := by have := HLB.out; simp at this; omega
            by_cases hn : 0 < N
            · have HARM : Hid (∀ KK : Int, 0 ≤ KK → d.arm N KK = ({ d with armed := N.toNat, keep := KK.toNat }, 0)) := Lib.hid (fun KK hk => arm_ok HLV.out.dd (by omega) hk)
              by_cases hk : 0 < K
              · go_wp2_with fail
                refine (arm_newO HOA.out.disk N K (by omega) (by omega)).mono ?_
                rw [HARM.out K (by omega)]
                rintro e wb ⟨rfl, hb1, hb2⟩
                have HB1 : Hid (One w0 wb x c l { d with armed := N.toNat, keep := K.toNat } M) := ⟨HOA.out.x0, HOA.out.log.keepsOff hb2 (by decide), hb1⟩
                have HB2 := Lib.hid (keeps_diskT hb2)
                clear hb1 hb2
                go_wp2
                go_meet
                case rel => exact ⟨rfl, _, HB1.out, HLV.out.arm _ _, .inr ⟨hl, hn⟩, HFA.out.onward HB2.out, HB2.out.cells HOP.out (by decide)⟩
              · go_wp2_with fail
                refine (arm_newO HOA.out.disk N 0 (by omega) (by omega)).mono ?_
                rw [HARM.out 0 (by omega)]
                rintro e wb ⟨rfl, hb1, hb2⟩
                have HB1 : Hid (One w0 wb x c l { d with armed := N.toNat, keep := (0 : Int).toNat } M) := ⟨HOA.out.x0, HOA.out.log.keepsOff hb2 (by decide), hb1⟩
                have HB2 := Lib.hid (keeps_diskT hb2)
                clear hb1 hb2
                go_wp2
                go_meet
                case rel => exact ⟨rfl, _, HB1.out, HLV.out.arm _ _, .inr ⟨hl, hn⟩, HFA.out.onward HB2.out, HB2.out.cells HOP.out (by decide)⟩
            · go_wp2
              go_meet
              case rel => exact ⟨rfl, d, HDONE.out⟩
          | false =>
            go_wp2
            go_meet
            case rel => exact ⟨rfl, d, HDONE.out⟩
        case rest =>
          obtain ⟨rfl, d1, g1, g2, g3, g4, g5⟩ := hcut
          clear d71 d72 hlt7
          have HO1 := Lib.hid g1
          have HLV1 := Lib.hid g2
          have HAR1 := Lib.hid g3
          have HF1 := Lib.hid g4
          have HOP1 := Lib.hid g5
          have o1 := cell_of (i := 1) g5 rfl
          have o4 := cell_of (i := 4) g5 rfl
          have hlf := HF1.out.b7
          rw [← HLI.out] at hlf
          clear hlf
          have HLN : Hid (l.n ≤ 4611686018427387904) := Lib.hid (by rw [HLV1.out.n]; omega)
          have HLG : Hid (l.g ≤ 4611686018427387904) := Lib.hid HLV1.out.g2
          clear g1 g2 g3 g4 g5 HOA HFA HOP
          obtain ⟨r, hr⟩ : ∃ r, Wal.sync l d1 = r := ⟨_, rfl⟩
          have HR := Lib.hid hr
          clear hr
          go_wp2_with fail
          refine (sync_one HO1.out).mono ?_
          rw [HR.out]
          rintro e wd ⟨rfl, hd1, hd2, hd3⟩
          have HO2 := Lib.hid hd1
          have HF2 := Lib.hid (HF1.out.onward hd2)
          have HOP2 := Lib.hid (hd2.cells HOP1.out (by decide))
          have HZ := Lib.hid hd3
          have o0 := cell_of (i := 0) HOP2.out rfl
          have p1 := cell_of (i := 1) HOP2.out rfl
          have o2 := cell_of (i := 2) HOP2.out rfl
          have o3 := cell_of (i := 3) HOP2.out rfl
          have p4 := cell_of (i := 4) HOP2.out rfl
          obtain ⟨b60, b61, _, _⟩ := cells2 HF2.out.b6
          clear hd1 hd2 hd3 o1 o4
          rcases Wal.sync_live HLV1.out HR.out with ⟨h0, hleq, hlive, harm⟩ | ⟨h0, hld, hdd, ha, jj, j1, j2, hsit⟩
          · have HLV2 : Hid (Wal.Live r.1 r.2.1 snap rs rs.length) := Lib.hid (by rw [hleq]; exact hlive)
            have HAR2 := Lib.hid harm
            clear hlive harm hleq
            rw [h0]
            go_wp2_with fail
            refine (next_sync wd (snap, rs) rv on a b s HF2.out.row).mono ?_
            rintro e we ⟨⟨rv', rfl, hrow'⟩, hbn⟩
            have HF3 := Lib.hid (HF2.out.below hbn)
            have HRW := Lib.hid hrow'
            have H3 := Lib.hid (HO2.out.below hbn)
            obtain ⟨g', cp', _, rfl, _⟩ := hrow'
            obtain ⟨rl, hrl⟩ : ∃ n : Nat, (rs : List (List UInt8)).length = n := ⟨_, rfl⟩
            rw [hrl] at HRW ⊢
            clear hrl
            obtain ⟨gm', cm', _, hvm, _, hgm, _⟩ := HF3.out.slice
            cases hvm
            have hgmlt := heap_lt hgm
            obtain ⟨c60, c61, c6f, hlt6⟩ := cells2 HF3.out.b6
            have c60f := c6f 0
            have c61f := c6f 1
            clear hbn o0 p1 o2 o3 p4 c6f b60 b61 hgm
            go_upto_region 21 with fail
            obtain ⟨B15, hB15⟩ : ∃ B, we.heap.size = B := ⟨_, rfl⟩
            obtain ⟨wf, hwf⟩ : ∃ W, we.alloc (.cells #[.string ⟨(snap).toArray⟩, .slice (some ⟨g', 0, none⟩) rl cp'] 79) = W := ⟨_, rfl⟩
            have hn15 := heap_new we (.cells #[.string ⟨(snap).toArray⟩, .slice (some ⟨g', 0, none⟩) rl cp'] 79)
            have hbf := balloc we (.cells #[.string ⟨(snap).toArray⟩, .slice (some ⟨g', 0, none⟩) rl cp'] 79)
            rw [hB15] at hgmlt hlt6
            rw [hwf, hB15] at hn15 ⊢
            rw [hwf] at hbf
            have HF4 := Lib.hid (HF3.out.below hbf)
            have HRW4 := Lib.hid (HRW.out.below hbf)
            have H4 := Lib.hid (H3.out.below hbf)
            have N15 := Lib.hid hn15
            obtain ⟨x0, x1, x15f, hlt15⟩ := cells2 hn15
            obtain ⟨e60, e61, e6f, _⟩ := cells2 HF4.out.b6
            have e60f := e6f 0
            have e61f := e6f 1
            have hne15 : ¬ B15 = B6 := by omega
            have hne15' : ¬ B6 = B15 := by omega
            clear hB15 hwf hn15 hbf c60 c61 c60f c61f x15f e6f
            go_upto_region 22 with fail
            obtain ⟨wg, hwg⟩ : ∃ W, (wf.setCell ⟨B6, 0, none⟩ (.string ⟨(snap).toArray⟩)).setCell ⟨B6, 1, none⟩ (.slice (some ⟨g', 0, none⟩) rl cp') = W := ⟨_, rfl⟩
            have htw := touch_two wf B6 (.string ⟨(snap).toArray⟩) (.slice (some ⟨g', 0, none⟩) rl cp')
            have hfg := HF4.out.turn (y := (snap, rs)) HRW4.out hne67
            have hty := typed_one HF4.out.b6
            dsimp only at hfg
            rw [hwg] at htw hfg ⊢
            have HRW5 := Lib.hid (HRW4.out.keepsOff (.of_touch hty htw) (by decide))
            have H5 := Lib.hid (H4.out.keep htw (fun k hk => by subst hk; exact Nat.le_trans HW0.out HF4.out.lo.1) hty (by decide) (by decide) (by decide))
            have HF5 := Lib.hid hfg
            have N15' := Lib.hid ((htw.block B15 hlt15 hne15).trans N15.out)
            obtain ⟨z0, z1, _, hlt15'⟩ := cells2 N15'.out
            clear htw hfg hty hwg x0 x1 e60 e61 e60f e61f
            go_wp2_with (first | (at_builtin; go_must (refine wpList_append_own2 _ rfl (.tmp 106) (.tmp 108) 83 rfl (B7 + 1) 79 2 40 _ Try.stInfo Try.underlying83 rfl (by decide) (.slice (some ⟨gm, 0, none⟩) ml.length cm) ml.length (stRow ml) rfl (HF5.out.below (balloc wg _)).own ⟨wg.heap.size, 0, none⟩ 1 1 [.string ⟨(snap).toArray⟩, .slice (some ⟨g', 0, none⟩) rl cp'] rfl rfl (fun i u hi => by rw [addr_add, Nat.zero_add]; exact cell_of (heap_new wg _) (by simpa using hi)) (by intro u hu; simp at hu; rcases hu with rfl | rfl <;> rfl) (by unfold maxLen; omega) (by omega) ((HF5.out.below (balloc wg _)).base) ?_; intro vm' wh ho hg _; have HOH := Lib.hid ho; have HGH := Lib.hid hg; clear ho hg; have htg0 := touch_of_grown HGH.out; have N15h := Lib.hid ((htg0.block B15 (Nat.lt_of_lt_of_le hlt15' (balloc wg _).size) (fun e => by have e1 : gm = B15 := Option.some.inj e; omega)).trans (stays N15'.out (balloc wg _))); obtain ⟨y0, y1, _, _⟩ := cells2 N15h.out; clear htg0)))
            have HF6 := Lib.hid ((HF5.out.below (balloc wg (.cells #[.string ⟨(snap).toArray⟩, .slice (some ⟨g', 0, none⟩) rl cp'] 79))).push (y := (snap, rs)) (HRW5.out.below (balloc wg _)) HOH.out HGH.out)
            have htg := touch_of_grown HGH.out
            have htyg : Typed [79] (wg.alloc (.cells #[.string ⟨(snap).toArray⟩, .slice (some ⟨g', 0, none⟩) rl cp'] 79)) (fun k => (Value.slice (some ⟨gm, 0, none⟩) ml.length cm).ownBlock = some k) := typed_own (HF5.out.below (balloc wg _)).own (by simp)
            have H6 := Lib.hid ((H5.out.below (balloc wg _)).keep htg (fun k hk => by have h1 := own_lo' (HF5.out.below (balloc wg (.cells #[.string ⟨(snap).toArray⟩, .slice (some ⟨g', 0, none⟩) rl cp'] 79))).own k hk; have h2 := HF5.out.lo; have h3 := HW0.out; omega) htyg (by decide) (by decide) (by decide))
            have HRW6 := Lib.hid ((HRW5.out.below (balloc wg _)).keepsOff (.of_touch htyg htg) (by decide))
            clear htg htyg z0 z1
            go_wp2
            go_roundw
            case rel => exact ⟨j + 1, by go_num, by omega, ⟨snap, rs, rs.length, r.1, r.2.1, M, _, _, HLV2.out, HAR1.out.elim (fun h => .inl (HAR2.out h)) (fun h => .inr h.1), H6.out.below (balloc wh _), by omega, HF6.out.anew (y := (snap, rs)) HRW6.out, by rw [mays_all]; rfl⟩⟩
            case measure => simp [intOf]; omega
          · have HZD := Lib.hid (HZ.out hdd HLV1.out.dd)
            have LOG2 := Lib.hid HO2.out.log
            rw [h0]
            go_wp2_with fail
            refine (next_sync wd (snap, rs) rv on a b s HF2.out.row).mono ?_
            rintro e we ⟨⟨rv', rfl, hrow'⟩, hbn⟩
            have HF3 := Lib.hid (HF2.out.below hbn)
            have HRW := Lib.hid hrow'
            have H3 := Lib.hid (HZD.out.below hbn)
            have LOG3 := Lib.hid (LOG2.out.below hbn)
            obtain ⟨g', cp', _, rfl, _⟩ := hrow'
            obtain ⟨rl, hrl⟩ : ∃ n : Nat, (rs : List (List UInt8)).length = n := ⟨_, rfl⟩
            rw [hrl] at HRW ⊢
            clear hrl
            obtain ⟨gm', cm', _, hvm, _, hgm, _⟩ := HF3.out.slice
            cases hvm
            have hgmlt := heap_lt hgm
            obtain ⟨c60, c61, c6f, hlt6⟩ := cells2 HF3.out.b6
            have c60f := c6f 0
            have c61f := c6f 1
            clear hbn o0 p1 o2 o3 p4 c6f b60 b61 hgm
            go_upto_region 20 with fail
            obtain ⟨B15, hB15⟩ : ∃ B, we.heap.size = B := ⟨_, rfl⟩
            obtain ⟨wf, hwf⟩ : ∃ W, we.alloc (.cells #[.string ⟨(snap).toArray⟩, .slice (some ⟨g', 0, none⟩) rl cp'] 79) = W := ⟨_, rfl⟩
            have hn15 := heap_new we (.cells #[.string ⟨(snap).toArray⟩, .slice (some ⟨g', 0, none⟩) rl cp'] 79)
            have hbf := balloc we (.cells #[.string ⟨(snap).toArray⟩, .slice (some ⟨g', 0, none⟩) rl cp'] 79)
            rw [hB15] at hgmlt hlt6
            rw [hwf, hB15] at hn15 ⊢
            rw [hwf] at hbf
            have HF4 := Lib.hid (HF3.out.below hbf)
            have HRW4 := Lib.hid (HRW.out.below hbf)
            have H4 := Lib.hid (H3.out.below hbf)
            have LOGx := Lib.hid (LOG3.out.below hbf)
            have N15 := Lib.hid hn15
            obtain ⟨x0, x1, x15f, hlt15⟩ := cells2 hn15
            obtain ⟨e60, e61, e6f, _⟩ := cells2 HF4.out.b6
            have e60f := e6f 0
            have e61f := e6f 1
            have hne15 : ¬ B15 = B6 := by omega
            have hne15' : ¬ B6 = B15 := by omega
            clear hB15 hwf hn15 hbf c60 c61 c60f c61f x15f e6f
            obtain ⟨hl, hn⟩ : j + 1 = sc.length ∧ 0 < N := HAR1.out.resolve_left ha
            obtain rfl : lb = true := by have := HLB.out; rw [← this]; simp; omega
            go_wp2_with (first | (at_builtin; go_must (refine wpList_append_own2 _ rfl (.tmp 91) (.tmp 93) 83 rfl (B7 + 1) 79 2 40 _ Try.stInfo Try.underlying83 rfl (by decide) (.slice (some ⟨gm, 0, none⟩) ml.length cm) ml.length (stRow ml) rfl (HF4.out.below (balloc wf _)).own ⟨wf.heap.size, 0, none⟩ 1 1 [.string ⟨(snap).toArray⟩, .slice (some ⟨g', 0, none⟩) rl cp'] rfl rfl (fun i u hi => by rw [addr_add, Nat.zero_add]; exact cell_of (heap_new wf _) (by simpa using hi)) (by intro u hu; simp at hu; rcases hu with rfl | rfl <;> rfl) (by unfold maxLen; omega) (by omega) ((HF4.out.below (balloc wf _)).base) ?_; intro vm' wh ho hg _; have HOH := Lib.hid ho; have HGH := Lib.hid hg; clear ho hg; have HF6 := Lib.hid ((HF4.out.below (balloc wf (.cells #[.string ⟨(snap).toArray⟩, .slice (some ⟨g', 0, none⟩) rl cp'] 79))).push (y := (snap, rs)) (HRW4.out.below (balloc wf _)) HOH.out HGH.out); have hlf := HF6.out.b7; rw [← HLI.out] at hlf; have d71 := cell_of (i := 1) hlf rfl; clear hlf)))
            have htg := touch_of_grown HGH.out
            have htyg : Typed [79] (wf.alloc (.cells #[.string ⟨(snap).toArray⟩, .slice (some ⟨g', 0, none⟩) rl cp'] 79)) (fun k => (Value.slice (some ⟨gm, 0, none⟩) ml.length cm).ownBlock = some k) := typed_own (HF4.out.below (balloc wf _)).own (by simp)
            have hlog : LogAt wh x c r.1 := (LOGx.out.below (balloc wf _)).keepsOff (.of_touch htyg htg) (by decide)
            have H6 := Lib.hid ((H4.out.below (balloc wf _)).keep htg (fun k hk => by have h1 := own_lo' (HF4.out.below (balloc wf (.cells #[.string ⟨(snap).toArray⟩, .slice (some ⟨g', 0, none⟩) rl cp'] 79))).own k hk; have h2 := HF4.out.lo; have h3 := HW0.out; omega) htyg (by decide) (by decide))
            clear htg htyg
            refine (wdead_any x c wh r.1 hlog).mono ?_
            rw [hld]
            rintro e wi ⟨rfl, rfl⟩
            go_wp2
            refine bodyPost_ret (results_tmp2 rfl _ _ _) rfl ?_
            exact ⟨_, _, rfl, HF6.out.states, fun z hz => few_all HML.out hfew (by simp <;> omega) z hz, by rw [List.length_map, List.length_append]; simp; omega, HF6.out.keeps, .inr ⟨r.2.1, H6.out, hdd, _, _, _, _, (by rw [List.map_append, HML.out]; exact List.mem_append_left _ (mays_mem snap rs m jj j1 j2)), hsit⟩⟩
      · go_upto_region 8 with fail
        obtain ⟨B12, hB12⟩ : ∃ B, wr.heap.size = B := ⟨_, rfl⟩
        obtain ⟨wa, hwa⟩ : ∃ W, wr.alloc (.cells #[.int .i64 on, .int .i64 2, .int .i64 a, .int .i64 b, .string ⟨s.toArray⟩] 65) = W := ⟨_, rfl⟩
        have hop := heap_new wr (.cells #[.int .i64 on, .int .i64 2, .int .i64 a, .int .i64 b, .string ⟨s.toArray⟩] 65)
        have hba := balloc wr (.cells #[.int .i64 on, .int .i64 2, .int .i64 a, .int .i64 b, .string ⟨s.toArray⟩] 65)
        rw [hB12] at hlt7
        rw [hwa, hB12] at hop ⊢
        rw [hwa] at hba
        have HOP := Lib.hid hop
        have HOA := Lib.hid (HO.out.below hba)
        have HFA := Lib.hid (HF.out.below hba)
        have hlf := HFA.out.b7
        rw [← HLI.out] at hlf
        have d71 := cell_of (i := 1) hlf rfl
        have d72 := cell_of (i := 2) hlf rfl
        clear hop hba hlf hB12 hwa c70 c71 c72 q0 q1 q2 q3 q4
        obtain ⟨lb, hlb⟩ : ∃ lb : Bool, ((j : Int) == (sc.length : Int) - 1) = lb := ⟨_, rfl⟩
        rw [hlb]
        have HLB := Lib.hid hlb
        clear hlb
        go_cut [60] from 19 to 112 (fun v wx => v = .bool false ∧ ∃ d1 : DS, One w0 wx x c l d1 M ∧ Wal.Live l d1 snap rs m ∧ (d1.armed = 0 ∨ (j + 1 = sc.length ∧ 0 < N)) ∧ Fit w wx (B7 + 1) B6 B7 (snap, rs) rv (.slice (some ⟨gm, 0, none⟩) ml.length cm) ml life ∧ wx.heap[B12]? = some (.cells #[.int .i64 on, .int .i64 2, .int .i64 a, .int .i64 b, .string ⟨s.toArray⟩] 65 (0, 0)))
        case first =>
          have hzero : d.armed = 0 := HAR.out.resolve_right (by omega)
          have HDONE : Hid (One w0 wa x c l d M ∧ Wal.Live l d snap rs m ∧ (d.armed = 0 ∨ (j + 1 = sc.length ∧ 0 < N)) ∧ Fit w wa (B7 + 1) B6 B7 (snap, rs) rv (.slice (some ⟨gm, 0, none⟩) ml.length cm) ml life ∧ wa.heap[B12]? = some (.cells #[.int .i64 on, .int .i64 2, .int .i64 a, .int .i64 b, .string ⟨s.toArray⟩] 65 (0, 0))) := ⟨HOA.out, HLV.out, .inl hzero, HFA.out, HOP.out⟩
          cases lb with
          | true =>
            have hl : j + 1 = sc.length := by have := HLB.out; simp at this; omega
            by_cases hn : 0 < N
            · have HARM : Hid (∀ KK : Int, 0 ≤ KK → d.arm N KK = ({ d with armed := N.toNat, keep := KK.toNat }, 0)) := Lib.hid (fun KK hk => arm_ok HLV.out.dd (by omega) hk)
              by_cases hk : 0 < K
              · go_wp2_with fail
                refine (arm_newO HOA.out.disk N K (by omega) (by omega)).mono ?_
                rw [HARM.out K (by omega)]
                rintro e wb ⟨rfl, hb1, hb2⟩
                have HB1 : Hid (One w0 wb x c l { d with armed := N.toNat, keep := K.toNat } M) := ⟨HOA.out.x0, HOA.out.log.keepsOff hb2 (by decide), hb1⟩
                have HB2 := Lib.hid (keeps_diskT hb2)
                clear hb1 hb2
                go_wp2
                go_meet
                case rel => exact ⟨rfl, _, HB1.out, HLV.out.arm _ _, .inr ⟨hl, hn⟩, HFA.out.onward HB2.out, HB2.out.cells HOP.out (by decide)⟩
              · go_wp2_with fail
                refine (arm_newO HOA.out.disk N 0 (by omega) (by omega)).mono ?_
                rw [HARM.out 0 (by omega)]
                rintro e wb ⟨rfl, hb1, hb2⟩
                have HB1 : Hid (One w0 wb x c l { d with armed := N.toNat, keep := (0 : Int).toNat } M) := ⟨HOA.out.x0, HOA.out.log.keepsOff hb2 (by decide), hb1⟩
                have HB2 := Lib.hid (keeps_diskT hb2)
                clear hb1 hb2
                go_wp2
                go_meet
                case rel => exact ⟨rfl, _, HB1.out, HLV.out.arm _ _, .inr ⟨hl, hn⟩, HFA.out.onward HB2.out, HB2.out.cells HOP.out (by decide)⟩
            · go_wp2
              go_meet
              case rel => exact ⟨rfl, d, HDONE.out⟩
          | false =>
            go_wp2
            go_meet
            case rel => exact ⟨rfl, d, HDONE.out⟩
        case rest =>
          obtain ⟨rfl, d1, g1, g2, g3, g4, g5⟩ := hcut
          clear d71 d72 hlt7
          have HO1 := Lib.hid g1
          have HLV1 := Lib.hid g2
          have HAR1 := Lib.hid g3
          have HF1 := Lib.hid g4
          have HOP1 := Lib.hid g5
          have o1 := cell_of (i := 1) g5 rfl
          have o4 := cell_of (i := 4) g5 rfl
          have hlf := HF1.out.b7
          rw [← HLI.out] at hlf
          clear hlf
          have HLN : Hid (l.n ≤ 4611686018427387904) := Lib.hid (by rw [HLV1.out.n]; omega)
          have HLG : Hid (l.g ≤ 4611686018427387904) := Lib.hid HLV1.out.g2
          clear g1 g2 g3 g4 g5 HOA HFA HOP
          obtain ⟨r, hr⟩ : ∃ r, Wal.checkpoint l d1 s = r := ⟨_, rfl⟩
          have HR := Lib.hid hr
          clear hr
          go_wp2_with fail
          refine (check_one HO1.out s (by omega) f1 HLG.out).mono ?_
          rw [HR.out]
          rintro e wd ⟨rfl, hd1, hd2, hd3⟩
          have HO2 := Lib.hid hd1
          have HF2 := Lib.hid (HF1.out.onward hd2)
          have HOP2 := Lib.hid (hd2.cells HOP1.out (by decide))
          have HZ := Lib.hid hd3
          have o0 := cell_of (i := 0) HOP2.out rfl
          have p1 := cell_of (i := 1) HOP2.out rfl
          have o2 := cell_of (i := 2) HOP2.out rfl
          have o3 := cell_of (i := 3) HOP2.out rfl
          have p4 := cell_of (i := 4) HOP2.out rfl
          obtain ⟨b60, b61, _, _⟩ := cells2 HF2.out.b6
          clear hd1 hd2 hd3 o1 o4
          rcases Wal.checkpoint_live HLV1.out s HR.out with ⟨h1, h2, h3⟩ | ⟨h0, hlive, harm⟩ | ⟨h0, hld, hdd, ha, hsit⟩
          · obtain ⟨n0, n2⟩ : (r.2.2 != 0) = true ∧ (r.2.2 != 2) = true := by rcases h1 with h | h <;> rw [h] <;> exact ⟨rfl, rfl⟩
            have hone : One w0 wd x c l d1 (M + 1) := by have := HO2.out; rw [h2, h3] at this; exact this
            have HONE := Lib.hid hone
            clear h1 h2 h3 hone
            go_wp2
            go_roundw
            case rel => exact ⟨j + 1, by go_num, by omega, ⟨snap, rs, m, l, d1, M + 1, rv, ml, HLV1.out, HAR1.out.imp id (fun h => h.1), HONE.out, by omega, HF2.out, HML.out⟩⟩
            case measure => simp [intOf]; omega
          · have HLV2 := Lib.hid hlive
            have HAR2 := Lib.hid harm
            clear hlive harm
            rw [h0]
            go_wp2_with fail
            refine (next_other wd (snap, rs) rv on 2 a b s HF2.out.row rfl rfl).mono ?_
            rintro e we ⟨⟨rv', rfl, hrow'⟩, hbn⟩
            have HF3 := Lib.hid (HF2.out.below hbn)
            have HRW := Lib.hid hrow'
            have H3 := Lib.hid (HO2.out.below hbn)
            obtain ⟨g', cp', _, rfl, _⟩ := hrow'
            obtain ⟨rl, hrl⟩ : ∃ n : Nat, ([] : List (List UInt8)).length = n := ⟨_, rfl⟩
            rw [hrl] at HRW ⊢
            clear hrl
            obtain ⟨gm', cm', _, hvm, _, hgm, _⟩ := HF3.out.slice
            cases hvm
            have hgmlt := heap_lt hgm
            obtain ⟨c60, c61, c6f, hlt6⟩ := cells2 HF3.out.b6
            have c60f := c6f 0
            have c61f := c6f 1
            clear hbn o0 p1 o2 o3 p4 c6f b60 b61 hgm
            go_upto_region 21 with fail
            obtain ⟨B15, hB15⟩ : ∃ B, we.heap.size = B := ⟨_, rfl⟩
            obtain ⟨wf, hwf⟩ : ∃ W, we.alloc (.cells #[.string ⟨(s).toArray⟩, .slice (some ⟨g', 0, none⟩) rl cp'] 79) = W := ⟨_, rfl⟩
            have hn15 := heap_new we (.cells #[.string ⟨(s).toArray⟩, .slice (some ⟨g', 0, none⟩) rl cp'] 79)
            have hbf := balloc we (.cells #[.string ⟨(s).toArray⟩, .slice (some ⟨g', 0, none⟩) rl cp'] 79)
            rw [hB15] at hgmlt hlt6
            rw [hwf, hB15] at hn15 ⊢
            rw [hwf] at hbf
            have HF4 := Lib.hid (HF3.out.below hbf)
            have HRW4 := Lib.hid (HRW.out.below hbf)
            have H4 := Lib.hid (H3.out.below hbf)
            have N15 := Lib.hid hn15
            obtain ⟨x0, x1, x15f, hlt15⟩ := cells2 hn15
            obtain ⟨e60, e61, e6f, _⟩ := cells2 HF4.out.b6
            have e60f := e6f 0
            have e61f := e6f 1
            have hne15 : ¬ B15 = B6 := by omega
            have hne15' : ¬ B6 = B15 := by omega
            clear hB15 hwf hn15 hbf c60 c61 c60f c61f x15f e6f
            go_upto_region 22 with fail
            obtain ⟨wg, hwg⟩ : ∃ W, (wf.setCell ⟨B6, 0, none⟩ (.string ⟨(s).toArray⟩)).setCell ⟨B6, 1, none⟩ (.slice (some ⟨g', 0, none⟩) rl cp') = W := ⟨_, rfl⟩
            have htw := touch_two wf B6 (.string ⟨(s).toArray⟩) (.slice (some ⟨g', 0, none⟩) rl cp')
            have hfg := HF4.out.turn (y := (s, [])) HRW4.out hne67
            have hty := typed_one HF4.out.b6
            dsimp only at hfg
            rw [hwg] at htw hfg ⊢
            have HRW5 := Lib.hid (HRW4.out.keepsOff (.of_touch hty htw) (by decide))
            have H5 := Lib.hid (H4.out.keep htw (fun k hk => by subst hk; exact Nat.le_trans HW0.out HF4.out.lo.1) hty (by decide) (by decide) (by decide))
            have HF5 := Lib.hid hfg
            have N15' := Lib.hid ((htw.block B15 hlt15 hne15).trans N15.out)
            obtain ⟨z0, z1, _, hlt15'⟩ := cells2 N15'.out
            clear htw hfg hty hwg x0 x1 e60 e61 e60f e61f
            go_wp2_with (first | (at_builtin; go_must (refine wpList_append_own2 _ rfl (.tmp 106) (.tmp 108) 83 rfl (B7 + 1) 79 2 40 _ Try.stInfo Try.underlying83 rfl (by decide) (.slice (some ⟨gm, 0, none⟩) ml.length cm) ml.length (stRow ml) rfl (HF5.out.below (balloc wg _)).own ⟨wg.heap.size, 0, none⟩ 1 1 [.string ⟨(s).toArray⟩, .slice (some ⟨g', 0, none⟩) rl cp'] rfl rfl (fun i u hi => by rw [addr_add, Nat.zero_add]; exact cell_of (heap_new wg _) (by simpa using hi)) (by intro u hu; simp at hu; rcases hu with rfl | rfl <;> rfl) (by unfold maxLen; omega) (by omega) ((HF5.out.below (balloc wg _)).base) ?_; intro vm' wh ho hg _; have HOH := Lib.hid ho; have HGH := Lib.hid hg; clear ho hg; have htg0 := touch_of_grown HGH.out; have N15h := Lib.hid ((htg0.block B15 (Nat.lt_of_lt_of_le hlt15' (balloc wg _).size) (fun e => by have e1 : gm = B15 := Option.some.inj e; omega)).trans (stays N15'.out (balloc wg _))); obtain ⟨y0, y1, _, _⟩ := cells2 N15h.out; clear htg0)))
            have HF6 := Lib.hid ((HF5.out.below (balloc wg (.cells #[.string ⟨(s).toArray⟩, .slice (some ⟨g', 0, none⟩) rl cp'] 79))).push (y := (s, [])) (HRW5.out.below (balloc wg _)) HOH.out HGH.out)
            have htg := touch_of_grown HGH.out
            have htyg : Typed [79] (wg.alloc (.cells #[.string ⟨(s).toArray⟩, .slice (some ⟨g', 0, none⟩) rl cp'] 79)) (fun k => (Value.slice (some ⟨gm, 0, none⟩) ml.length cm).ownBlock = some k) := typed_own (HF5.out.below (balloc wg _)).own (by simp)
            have H6 := Lib.hid ((H5.out.below (balloc wg _)).keep htg (fun k hk => by have h1 := own_lo' (HF5.out.below (balloc wg (.cells #[.string ⟨(s).toArray⟩, .slice (some ⟨g', 0, none⟩) rl cp'] 79))).own k hk; have h2 := HF5.out.lo; have h3 := HW0.out; omega) htyg (by decide) (by decide) (by decide))
            have HRW6 := Lib.hid ((HRW5.out.below (balloc wg _)).keepsOff (.of_touch htyg htg) (by decide))
            clear htg htyg z0 z1
            go_wp2
            go_roundw
            case rel => exact ⟨j + 1, by go_num, by omega, ⟨s, [], 0, r.1, r.2.1, M + 1, _, _, HLV2.out, HAR1.out.elim (fun h => .inl (HAR2.out h)) (fun h => .inr h.1), H6.out.below (balloc wh _), by omega, HF6.out.anew (y := (s, [])) HRW6.out, by rw [show mays s [] 0 = mays s [] ([] : List (List UInt8)).length from rfl, mays_all]; rfl⟩⟩
            case measure => simp [intOf]; omega
          · have HZD := Lib.hid (HZ.out hdd HLV1.out.dd)
            have LOG2 := Lib.hid HO2.out.log
            rw [h0]
            go_wp2_with fail
            refine (next_other wd (snap, rs) rv on 2 a b s HF2.out.row rfl rfl).mono ?_
            rintro e we ⟨⟨rv', rfl, hrow'⟩, hbn⟩
            have HF3 := Lib.hid (HF2.out.below hbn)
            have HRW := Lib.hid hrow'
            have H3 := Lib.hid (HZD.out.below hbn)
            have LOG3 := Lib.hid (LOG2.out.below hbn)
            obtain ⟨g', cp', _, rfl, _⟩ := hrow'
            obtain ⟨rl, hrl⟩ : ∃ n : Nat, ([] : List (List UInt8)).length = n := ⟨_, rfl⟩
            rw [hrl] at HRW ⊢
            clear hrl
            obtain ⟨gm', cm', _, hvm, _, hgm, _⟩ := HF3.out.slice
            cases hvm
            have hgmlt := heap_lt hgm
            obtain ⟨c60, c61, c6f, hlt6⟩ := cells2 HF3.out.b6
            have c60f := c6f 0
            have c61f := c6f 1
            clear hbn o0 p1 o2 o3 p4 c6f b60 b61 hgm
            go_upto_region 20 with fail
            obtain ⟨B15, hB15⟩ : ∃ B, we.heap.size = B := ⟨_, rfl⟩
            obtain ⟨wf, hwf⟩ : ∃ W, we.alloc (.cells #[.string ⟨(s).toArray⟩, .slice (some ⟨g', 0, none⟩) rl cp'] 79) = W := ⟨_, rfl⟩
            have hn15 := heap_new we (.cells #[.string ⟨(s).toArray⟩, .slice (some ⟨g', 0, none⟩) rl cp'] 79)
            have hbf := balloc we (.cells #[.string ⟨(s).toArray⟩, .slice (some ⟨g', 0, none⟩) rl cp'] 79)
            rw [hB15] at hgmlt hlt6
            rw [hwf, hB15] at hn15 ⊢
            rw [hwf] at hbf
            have HF4 := Lib.hid (HF3.out.below hbf)
            have HRW4 := Lib.hid (HRW.out.below hbf)
            have H4 := Lib.hid (H3.out.below hbf)
            have LOGx := Lib.hid (LOG3.out.below hbf)
            have N15 := Lib.hid hn15
            obtain ⟨x0, x1, x15f, hlt15⟩ := cells2 hn15
            obtain ⟨e60, e61, e6f, _⟩ := cells2 HF4.out.b6
            have e60f := e6f 0
            have e61f := e6f 1
            have hne15 : ¬ B15 = B6 := by omega
            have hne15' : ¬ B6 = B15 := by omega
            clear hB15 hwf hn15 hbf c60 c61 c60f c61f x15f e6f
            obtain ⟨hl, hn⟩ : j + 1 = sc.length ∧ 0 < N := HAR1.out.resolve_left ha
            obtain rfl : lb = true := by have := HLB.out; rw [← this]; simp; omega
            go_wp2_with (first | (at_builtin; go_must (refine wpList_append_own2 _ rfl (.tmp 91) (.tmp 93) 83 rfl (B7 + 1) 79 2 40 _ Try.stInfo Try.underlying83 rfl (by decide) (.slice (some ⟨gm, 0, none⟩) ml.length cm) ml.length (stRow ml) rfl (HF4.out.below (balloc wf _)).own ⟨wf.heap.size, 0, none⟩ 1 1 [.string ⟨(s).toArray⟩, .slice (some ⟨g', 0, none⟩) rl cp'] rfl rfl (fun i u hi => by rw [addr_add, Nat.zero_add]; exact cell_of (heap_new wf _) (by simpa using hi)) (by intro u hu; simp at hu; rcases hu with rfl | rfl <;> rfl) (by unfold maxLen; omega) (by omega) ((HF4.out.below (balloc wf _)).base) ?_; intro vm' wh ho hg _; have HOH := Lib.hid ho; have HGH := Lib.hid hg; clear ho hg; have HF6 := Lib.hid ((HF4.out.below (balloc wf (.cells #[.string ⟨(s).toArray⟩, .slice (some ⟨g', 0, none⟩) rl cp'] 79))).push (y := (s, [])) (HRW4.out.below (balloc wf _)) HOH.out HGH.out); have hlf := HF6.out.b7; rw [← HLI.out] at hlf; have d71 := cell_of (i := 1) hlf rfl; clear hlf)))
            have htg := touch_of_grown HGH.out
            have htyg : Typed [79] (wf.alloc (.cells #[.string ⟨(s).toArray⟩, .slice (some ⟨g', 0, none⟩) rl cp'] 79)) (fun k => (Value.slice (some ⟨gm, 0, none⟩) ml.length cm).ownBlock = some k) := typed_own (HF4.out.below (balloc wf _)).own (by simp)
            have hlog : LogAt wh x c r.1 := (LOGx.out.below (balloc wf _)).keepsOff (.of_touch htyg htg) (by decide)
            have H6 := Lib.hid ((H4.out.below (balloc wf _)).keep htg (fun k hk => by have h1 := own_lo' (HF4.out.below (balloc wf (.cells #[.string ⟨(s).toArray⟩, .slice (some ⟨g', 0, none⟩) rl cp'] 79))).own k hk; have h2 := HF4.out.lo; have h3 := HW0.out; omega) htyg (by decide) (by decide))
            clear htg htyg
            refine (wdead_any x c wh r.1 hlog).mono ?_
            rw [hld]
            rintro e wi ⟨rfl, rfl⟩
            go_wp2
            refine bodyPost_ret (results_tmp2 rfl _ _ _) rfl ?_
            exact ⟨_, _, rfl, HF6.out.states, fun z hz => few_all HML.out hfew (by simp <;> omega) z hz, by rw [List.length_map, List.length_append]; simp; omega, HF6.out.keeps, .inr ⟨r.2.1, H6.out, hdd, check_sits hsit HML.out⟩⟩
    · obtain rfl : j = sc.length := by omega
      go_wp2_with fail
      refine (dead_one HO.out).mono ?_
      rintro e we ⟨rfl, rfl⟩
      have hld : l.dead = false := HLV.out.ld
      rw [hld]
      go_wp2
      refine bodyPost_ret (results_tmp2 rfl _ _ _) rfl ?_
      exact ⟨_, _, rfl, HF.out.states, fun z hz => by rw [HML.out] at hz; have := mays_len _ _ _ z hz; omega, by rw [List.length_map]; omega, HF.out.keeps, .inl ⟨l, d, snap, rs, m, M, HO.out, HLV.out, HML.out⟩⟩
end Go.Proofs.Ytpjpknndfhablaa

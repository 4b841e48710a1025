/- The document's Encode. The document's image, Checkpoint. What a commit makes of a store's pairs. Plain laws. The document's Commit. -/
import Derived.BigQuiet
import Derived.Test.YtpjpknndfhablaaGreatK5
import Derived.Test.YtpjpknndfhablaaGreatK6
import Derived.Test.YtpjpknndfhablaaGreatK12
import Derived.Test.YtpjpknndfhablaaGreatK16
import Derived.Test.YtpjpknndfhablaaGreatK18
namespace Go.Proofs.YtpjpknndfhablaaGreat
open Go.RowKit
section
variable {P : Program} (w : World)
theorem run_append_room_cells_string (t u ty e : TypeId) (i : TypeInfo) (ht : P.underlying t = some (.slice e)) (hu : P.underlying u = some .string) (hi : P.info? e = some i) (hs1 : i.size = 1)
  (b off sLen sCap : Nat) (s : ByteArray) (hroom : sLen + s.size ≤ sCap) (hc : ∀ j, j < s.size → (w.cell? ⟨b, off + sLen + j, none⟩).isSome = true) (hf : ∀ j, j < s.size → w.frozen? ⟨b, off + sLen + j, none⟩ = false) :
  (Builtin.append_ #[t, u] ty #[.slice (some ⟨b, off, none⟩) sLen sCap, .string s]).run P w = .ok (.slice (some ⟨b, off, none⟩) (sLen + s.size) sCap) (w.setCells b (off + sLen) (Lib.strCells s)) := by
 have hfc := Lib.run_firstCells_string (P := P) w 1 s
 have hst := run_storeCells_cells (P := P) b (off + sLen) (Lib.strCells s) 0 w (by simpa [Lib.strCells_length] using hc) (by simpa [Lib.strCells_length] using hf) (Lib.strCells_oneCell s)
 simp only [Nat.add_zero] at hst
 simp [Builtin.append_, run_underlying ht, run_underlying hu, sizeOf, typeInfo, hi, hs1, Builtin.lenOf, hroom, hfc, Addr.add_lit, hst]
theorem run_append_ownF_string (base : Nat) (t u ty e : TypeId) (i : TypeInfo) (ht : P.underlying t = some (.slice e)) (hu : P.underlying u = some .string) (hi : P.info? e = some i) (hz : i.zero = some (.int .u8 0))
  (hsize : i.size = 1) (hby : i.bytes = 1)
  (v : Value) (l : List UInt8) (hown : OwnF w base 1 v l.length (bytesOf l)) (s : List UInt8) (hbytes : l.length + s.length ≤ 140737488355328) (hbase : base ≤ w.heap.size) :
  ∃ v' w', (Builtin.append_ #[t, u] ty #[v, .string ⟨s.toArray⟩]).run P w = .ok v' w' ∧ OwnF w' base 1 v' (l ++ s).length (bytesOf (l ++ s)) ∧ w.grownBy w' v.ownBlock := by
 have hss : (⟨s.toArray⟩ : ByteArray).size = s.length := by simp [ByteArray.size]
 have hsc : Lib.strCells ⟨s.toArray⟩ = bytesOf s := by simp [Lib.strCells, bytesOf]
 have h63 : l.length + s.length ≤ maxLen := by unfold maxLen; omega
 rcases hown.2 with ⟨rfl, h0⟩ | ⟨g, cap, rfl, hbg, hg, hnc, hcm, hcell, hx⟩
 ·have hl : l = [] := List.eq_nil_of_length_eq_zero h0
  subst hl
  obtain ⟨v', w', h1, h2, h3, _⟩ := Lib.run_append_own_string (P := P) w base t u ty e i ht hu hi hz hsize hby (.slice none 0 0) 0 [] (World.ownsRow_nil _ _ _ _) ⟨s.toArray⟩ (by rw [hss]; simpa using h63) (by rw [hss]; simpa using hbytes) hbase
  refine ⟨v', w', h1, ?_, h3⟩
  rw [hss, hsc, Nat.zero_add] at h2
  exact OwnF.of_owns h2
 ·by_cases hroom : l.length + s.length ≤ cap
  ·have hr := run_append_room_cells_string (P := P) w t u ty e i ht hu hi hsize g 0 l.length cap ⟨s.toArray⟩ (by rw [hss]; exact hroom)
    (fun j hj => by rw [Nat.zero_add]; exact (hcell _ (by rw [hss] at hj; omega)).1) (fun j hj => by rw [Nat.zero_add]; exact (hcell _ (by rw [hss] at hj; omega)).2)
   rw [hss, hsc, Nat.zero_add] at hr
   refine ⟨_, _, hr, ⟨bytesOf_length _, .inr ⟨g, cap, by rw [List.length_append], hbg, Nat.lt_of_lt_of_le hg (size_setCells w g _ _), by rw [List.length_append]; exact hroom, hcm, fun j hj => ⟨?_, ?_⟩, fun j u hu' => ?_⟩⟩, grown_setCells g _ _ w⟩
   ·exact World.isSome_setCells g _ _ w _ (hcell j hj).1
   ·rw [World.frozen?_setCells]; exact (hcell j hj).2
   ·rw [bytesOf_append] at hu'
    have hbl : (bytesOf l).length = l.length := by simp [bytesOf]
    rcases Nat.lt_or_ge j (bytesOf l).length with h | h
    ·rw [World.cell?_setCells_out g _ _ _ _ (fun _ _ => .inl (by rw [← hbl]; exact h))]
     rw [List.getElem?_append_left h] at hu'
     exact hx j u hu'
    ·rw [List.getElem?_append_right h, hbl] at hu'
     rw [hbl] at h
     have hjl : j - l.length < (bytesOf s).length := (List.getElem?_eq_some_iff.1 hu').1
     have := World.cell?_setCells_in g (bytesOf s) l.length w (fun k hk => (hcell _ (by simp [bytesOf] at hk; omega)).1) (j - l.length) hjl
     rw [show l.length + (j - l.length) = j by omega] at this
     rw [this]
     rw [List.getElem?_eq_getElem hjl] at hu'
     exact hu'
  ·have hr := Lib.run_append_grow_string (P := P) w t u ty e i (.int .u8 0) ht hu hi hz ⟨g, 0, none⟩ l.length cap (bytesOf l) (by rw [hsize]; simp [bytesOf]) (fun j u hu' => by rw [addr_add, Nat.zero_add]; exact hx j u hu') ⟨s.toArray⟩ (by rw [hss]; omega) (by rw [hss]; omega) (by rw [hby, hss]; exact growslice_fits (by omega) (by omega))
   rw [hss, hsc] at hr
   have hge := grownCap_ge w (l.length + s.length) cap e
   have hcm' : grownCap w (l.length + s.length) cap e ≤ maxLen := grownCap_le_maxLen w (l.length + s.length) cap e h63
   have hnew := heap_new w.drew (.cells ((bytesOf l).toArray ++ (bytesOf s).toArray ++ Builtin.zeroCells (Value.int .u8 0).cells (grownCap w (l.length + s.length) cap e - (l.length + s.length))) e)
   have ho : (w.drew.alloc (.cells ((bytesOf l).toArray ++ (bytesOf s).toArray ++ Builtin.zeroCells (Value.int .u8 0).cells (grownCap w (l.length + s.length) cap e - (l.length + s.length))) e)).ownsRow base e 1 (.slice (some ⟨w.heap.size, 0, none⟩) (l.length + s.length) (grownCap w (l.length + s.length) cap e)) (l.length + s.length) (bytesOf l ++ bytesOf s) := by
    have hlen : (bytesOf l ++ bytesOf s).length = (l.length + s.length) * 1 := by simp [bytesOf]
    refine ⟨hlen, .inr ⟨w.heap.size, _, _, rfl, hbase, hnew, hge, hcm', ?_, ?_⟩⟩
    ·have hz1 : (Value.int IntKind.u8 0).cells.size = 1 := rfl
     simp only [Array.size_append, List.size_toArray, size_zeroCells, hz1, bytesOf, List.length_map]
     omega
    ·simp only [Array.toList_append, List.append_assoc]
     rw [← List.append_assoc, ← hlen]
     exact List.take_left
   refine ⟨_, _, hr, ?_, ⟨rfl, rfl, rfl, by simp, fun k hk _ => heap_alloc (w := w.drew) _ hk⟩⟩
   rw [List.length_append, bytesOf_append]
   exact OwnF.of_owns ho
theorem wpList_append_ownF_string {ops : Array Oper} {rest : List Oper} {o : Oper} {a : Act} {Q : Exit → Act → World → Prop} (hgd : o.guard = none) (sl x : Operand) (t u : TypeId)
  (ho : o.op = .call { callee := .builtin .append, args := #[sl, x], argTypes := #[t, u] })
  (base : Nat) (e : TypeId) (ht : P.underlying t = some (.slice e)) (hu : P.underlying u = some .string) (hinfo : (P.info? e).map (fun i => (i.zero, i.size, i.bytes)) = some (some (.int .u8 0), 1, 1))
  (v : Value) (l : List UInt8) (hs : a.eval sl = v) (hown : OwnF w base 1 v l.length (bytesOf l)) (s : List UInt8) (hx : a.eval x = .string ⟨s.toArray⟩) (hbytes : l.length + s.length ≤ 140737488355328) (hbase : base ≤ w.heap.size)
  (h : ∀ v' w', OwnF w' base 1 v' (l ++ s).length (bytesOf (l ++ s)) → w.grownBy w' v.ownBlock → wpList P ops Q rest (a.put o.dst v') w') : wpList P ops Q (o :: rest) a w := by
 refine wpList_plain hgd fun K hK => ?_
 obtain ⟨i, hi, hz, hsize, hby⟩ := info_parts hinfo
 obtain ⟨v', w', hr, h2, h3⟩ := run_append_ownF_string (P := P) w base t u o.type e i ht hu hi hz hsize hby v l hown s hbytes hbase
 unfold Oper.wp execOp
 simp only [ho, resolve, invoke, builtin, Sem.run_bind, Sem.run_pure, Result.andThen_ok, List.map_toArray, List.map_cons, List.map_nil, hs, hx, hr]
 exact hK _ _ (h v' w' h2 h3)
end
/-- One byte more, which the block g holds. -/
theorem wpList_append_byte {P : Program} {w : World} {ops : Array Oper} {rest : List Oper} {o : Oper} {a : Act} {Q : Exit → Act → World → Prop} (hgd : o.guard = none) (sl x : Operand) (t : TypeId)
  (ho : o.op = .call { callee := .builtin .append, args := #[sl, x], argTypes := #[t, t] })
  (base : Nat) (e : TypeId) (ht : P.underlying t = some (.slice e)) (hinfo : (P.info? e).map (fun i => (i.zero, i.size, i.bytes)) = some (some (.int .u8 0), 1, 1))
  (v : Value) (l : List UInt8) (hs : a.eval sl = v) (hown : OwnF w base 1 v l.length (bytesOf l)) (g : Nat) (b : UInt8) (hx : a.eval x = .slice (some ⟨g, 0, none⟩) 1 1) (hc : w.cell? ⟨g, 0, none⟩ = some (.int .u8 (b.toNat : Nat))) (hbytes : (l ++ [b]).length ≤ 140737488355328) (hbase : base ≤ w.heap.size)
  (h : ∀ v' w', OwnF w' base 1 v' (l ++ [b]).length (bytesOf (l ++ [b])) → w.grownBy w' v.ownBlock → wpList P ops Q rest (a.put o.dst v') w') : wpList P ops Q (o :: rest) a w := by
 rw [List.length_append, List.length_singleton] at hbytes
 refine wpList_append_ownF w hgd sl x t ho base e 1 1 _ hinfo ht rfl (by decide) v l.length (bytesOf l) hs hown ⟨g, 0, none⟩ 1 1 [.int .u8 b.toNat] hx rfl (fun j u hj => ?_) (by intro u hu; simp at hu; subst hu; rfl) (by decide) (by unfold maxLen; omega) (by omega) hbase ?_
 ·rw [addr_add, Nat.zero_add]
  cases j with
  | zero => simp at hj; subst hj; exact hc
  | succ j => simp at hj
 ·intro v' w' h1 h2 _
  exact h v' w' (by rw [List.length_append, bytesOf_append]; exact h1) h2
theorem Sto.encode_len {c : List Sto.Ch} {count : Nat} : (Sto.encode c count).length = count + (Sto.enc c).length := by
 unfold Sto.encode
 rw [List.length_append, Sha.big_length]
set_option maxHeartbeats 8000000 in
set_option maxRecDepth 100000 in
theorem rencode_any (v : Value) (c : List Sto.Ch) (count : Nat) (w : World) (h : ChsAt w v c) (hf : ∀ x ∈ c, Sto.Fine x) (hcount : count ≤ 4) (hlen : (Sto.encode c count).length ≤ 140737488355328) (hcl : c.length ≤ 4398046511104) :
  Calls Tryz.prog 162 #[v, .int .i64 count] w fun e w' => e = .returned (.string ⟨(Sto.encode c count).toArray⟩) ∧ Below w.heap.size w w' := by
 obtain ⟨ao, cap, rfl, hn1, hn2, hrd⟩ := chsAt_read h
 have HRD : Hid (∀ w' : World, Below w.heap.size w w' → ∀ (j : Nat) p, c[j]? = some p → ∃ g, ao = some ⟨g, 0, none⟩ ∧ g < w.heap.size ∧ w'.cell? ⟨g, j * 3, none⟩ = some (.bool p.put) ∧ w'.cell? ⟨g, j * 3 + 1, none⟩ = some (.string ⟨p.key.toArray⟩) ∧ w'.cell? ⟨g, j * 3 + 2, none⟩ = some (.string ⟨p.value.toArray⟩)) := Lib.hid (fun w' hb j p hj => by
  obtain ⟨g, e, hg, a, b, d⟩ := hrd j p hj
  exact ⟨g, e, hg, cell_later hb a, cell_later hb b, cell_later hb d⟩)
 have HF := Lib.hid hf
 clear hrd hf h
 rw [Sto.encode_len] at hlen
 have HBY := Lib.hid (rbytes_any c.length count w (by omega) (by omega))
 obtain ⟨H, hH⟩ : ∃ H, Sha.big c.length count = H := ⟨_, rfl⟩
 have hHl : H.length = count := by rw [← hH]; exact Sha.big_length _ _
 rw [hH] at HBY
 have HE : Hid (Sto.encode c count = H ++ Sto.enc c) := Lib.hid (by unfold Sto.encode; rw [hH])
 clear hH
 have hwr : IntKind.u64.wrap (c.length : Int) = (c.length : Int) := by rw [IntWalk.u64_in _ (by omega)]
 go_enter Tryz.func162, Tryz.ntmps162
 go_wp2_with fail
 refine HBY.out.mono ?_
 rintro e w1 ⟨rfl, hb1⟩
 have HB1 := Lib.hid hb1
 clear hb1
 go_wp2_with (first | (refine wpList_convert_bytes _ rfl 9 175 5 (.tmp 11) rfl Tryz.underlying9 Tryz.underlying175 Tryz.underlying5 H rfl (by unfold maxLen; omega) w.heap.size HB1.out.size ?_; intro vb w2 hob hbb _; have HOB := Lib.hid hob; have HB2 := Lib.hid (bthen HB1.out hbb); clear hob hbb))
 go_loopw [5, 6] (fun vb i wr => ∃ j : Nat, i = .int .i64 j ∧ j ≤ c.length ∧ OwnF wr w.heap.size 1 vb (H ++ Sto.enc (c.take j)).length (bytesOf (H ++ Sto.enc (c.take j))) ∧ Below w.heap.size w wr) (fun _ i _ => c.length - (intOf i).toNat)
 case atStart => exact ⟨0, rfl, Nat.zero_le _, by simpa [Sto.enc] using HOB.out, HB2.out⟩
 case round =>
  obtain ⟨j, rfl, hj, hown, hbl⟩ := hrel
  have HO := Lib.hid hown
  have HB := Lib.hid hbl
  clear hown hbl
  by_cases hlt : j < c.length
  ·obtain ⟨⟨pu, ky, vl⟩, hx⟩ : ∃ x, c[j]? = some x := ⟨_, List.getElem?_eq_getElem hlt⟩
   have hsn := Sto.enc_snoc hx
   have hle := Sto.enc_take_le c (j + 1)
   have HFX := Lib.hid (HF.out _ (List.mem_of_getElem? hx))
   have hkl : ky.length ≤ 64 := (Sto.keyOk_iff.1 HFX.out.key).2
   have hvl : vl.length ≤ 4096 := Sto.valueOk_iff.1 HFX.out.value
   obtain ⟨g, rfl, _, c0, c1, c2⟩ := HRD.out _ HB.out j _ hx
   have HC : Hid (∀ w' : World, Below w.heap.size w w' → w'.cell? ⟨g, j * 3, none⟩ = some (.bool pu) ∧ w'.cell? ⟨g, j * 3 + 1, none⟩ = some (.string ⟨ky.toArray⟩) ∧ w'.cell? ⟨g, j * 3 + 2, none⟩ = some (.string ⟨vl.toArray⟩)) := Lib.hid (fun w' hb => by
    obtain ⟨g', e, _, x0, x1, x2⟩ := HRD.out w' hb j _ hx
    cases e
    exact ⟨x0, x1, x2⟩)
   simp only at c0 c1 c2
   have HSN := Lib.hid hsn
   have hszl : (Sto.enc (c.take j)).length + (Sto.enc1 ⟨pu, ky, vl⟩).length ≤ (Sto.enc c).length := by
    rw [hsn, List.length_append] at hle
    exact hle
   have hku : (UInt8.ofNat ky.length).toNat = ky.length := by simp; omega
   have hkw : IntKind.u8.wrap (ky.length : Int) = (ky.length : Int) := by rw [IntWalk.u8_in _ (by omega)]
   have hvw : IntKind.u64.wrap (vl.length : Int) = (vl.length : Int) := by rw [IntWalk.u64_in _ (by omega)]
   have hb2 : (Sha.big vl.length 2).length = 2 := Sha.big_length _ _
   clear hx hsn hle
   cases pu with
   | true =>
    simp only [Sto.enc1, if_pos, List.length_cons, List.length_append, hb2] at hszl
    have HV3 : Hid ((#[(Value.int .u8 1)] : Array Value)[0]? = some (.int .u8 ((1 : UInt8).toNat : Nat))) := Lib.hid rfl
    have HV4 : Hid ((#[(Value.int .u8 ky.length)] : Array Value)[0]? = some (.int .u8 ((UInt8.ofNat ky.length).toNat : Nat))) := Lib.hid (by rw [hku]; rfl)
    go_upto_region 8 with (first | (at_builtin; go_must (refine wpList_append_byte rfl (.tmp 24) (.tmp 25) 175 rfl w.heap.size 5 Tryz.underlying175 Tryz.byteInfo _ (H ++ Sto.enc (c.take j)) rfl (HO.out.touch (S := fun _ => False) (.of_below (balloc wr (.cells #[.int .u8 1] 5))) (fun _ _ h => h)) wr.heap.size (1) rfl (cell_of (heap_new wr _) HV3.out) (by simp only [List.length_append, List.length_singleton]; omega) (bthen HB.out (balloc wr (.cells #[.int .u8 1] 5))).size ?_; intro v3 w3' ho3 hg3; have HO3 := Lib.hid ho3; have HB3 := Lib.hid (below_grown (bthen HB.out (balloc wr (.cells #[.int .u8 1] 5))) (bthen HB.out (balloc wr (.cells #[.int .u8 1] 5))).size hg3 (fun k hk => (HO.out.lt k hk).1)); clear ho3 hg3; have d3 := (HC.out w3' HB3.out).2.1; have D3 := Lib.hid d3; have f3 := (HC.out w3' HB3.out).1; have e3 := (HC.out w3' HB3.out).2.2)))
    go_upto_region 9 with (first | (at_builtin; go_must (refine wpList_append_byte rfl (.tmp 30) (.tmp 38) 175 rfl w.heap.size 5 Tryz.underlying175 Tryz.byteInfo _ (H ++ Sto.enc (c.take j) ++ [1]) rfl (HO3.out.touch (S := fun _ => False) (.of_below (balloc w3' (.cells #[.int .u8 ky.length] 5))) (fun _ _ h => h)) w3'.heap.size (UInt8.ofNat ky.length) rfl (cell_of (heap_new w3' _) HV4.out) (by simp only [List.length_append, List.length_singleton]; omega) (bthen HB3.out (balloc w3' (.cells #[.int .u8 ky.length] 5))).size ?_; intro v4 w4' ho4 hg4; have HO4 := Lib.hid ho4; have HB4 := Lib.hid (below_grown (bthen HB3.out (balloc w3' (.cells #[.int .u8 ky.length] 5))) (bthen HB3.out (balloc w3' (.cells #[.int .u8 ky.length] 5))).size hg4 (fun k hk => (HO3.out.lt k hk).1)); clear ho4 hg4; have d4 := (HC.out w4' HB4.out).2.1; have D4 := Lib.hid d4; have f4 := (HC.out w4' HB4.out).1; have e4 := (HC.out w4' HB4.out).2.2)))
    go_upto_region 10 with (first | (at_builtin; go_must (refine wpList_append_ownF_string w4' rfl (.tmp 40) (.tmp 45) 175 9 rfl w.heap.size 5 Tryz.underlying175 Tryz.underlying9 Tryz.byteInfo _ (H ++ Sto.enc (c.take j) ++ [1] ++ [UInt8.ofNat ky.length]) rfl HO4.out (ky) rfl (by simp only [List.length_append, List.length_singleton]; omega) HB4.out.size ?_; intro v5 w5' ho5 hg5; have HO5 := Lib.hid ho5; have HB5 := Lib.hid (below_grown HB4.out HB4.out.size hg5 (fun k hk => (HO4.out.lt k hk).1)); clear ho5 hg5; have d5 := (HC.out w5' HB5.out).2.1; have D5 := Lib.hid d5; have f5 := (HC.out w5' HB5.out).1; have e5 := (HC.out w5' HB5.out).2.2)))
    go_wp2_with fail
    refine (rbytes_any vl.length 2 _ (by decide) (by omega)).mono ?_
    rintro e w6 ⟨rfl, hb6⟩
    have HB6 := Lib.hid (bthen HB5.out hb6)
    have HO6 := Lib.hid (HO5.out.touch (S := fun _ => False) (.of_below hb6) (fun _ _ h => h))
    clear hb6
    go_upto_region 12 with (first | (at_builtin; go_must (refine wpList_append_ownF_string w6 rfl (.tmp 52) (.tmp 60) 175 9 rfl w.heap.size 5 Tryz.underlying175 Tryz.underlying9 Tryz.byteInfo _ (H ++ Sto.enc (c.take j) ++ [1] ++ [UInt8.ofNat ky.length] ++ ky) rfl HO6.out (Sha.big vl.length 2) rfl (by simp only [List.length_append, List.length_singleton]; omega) HB6.out.size ?_; intro v7 w7' ho7 hg7; have HO7 := Lib.hid ho7; have HB7 := Lib.hid (below_grown HB6.out HB6.out.size hg7 (fun k hk => (HO6.out.lt k hk).1)); clear ho7 hg7; have d7 := (HC.out w7' HB7.out).2.1; have D7 := Lib.hid d7; have f7 := (HC.out w7' HB7.out).1; have e7 := (HC.out w7' HB7.out).2.2)))
    go_wp2_with (first | (at_builtin; go_must (refine wpList_append_ownF_string w7' rfl (.tmp 62) (.tmp 67) 175 9 rfl w.heap.size 5 Tryz.underlying175 Tryz.underlying9 Tryz.byteInfo _ (H ++ Sto.enc (c.take j) ++ [1] ++ [UInt8.ofNat ky.length] ++ ky ++ Sha.big vl.length 2) rfl HO7.out (vl) rfl (by simp only [List.length_append, List.length_singleton]; omega) HB7.out.size ?_; intro v8 w8' ho8 hg8; have HO8 := Lib.hid ho8; have HB8 := Lib.hid (below_grown HB7.out HB7.out.size hg8 (fun k hk => (HO7.out.lt k hk).1)); clear ho8 hg8; have d8 := (HC.out w8' HB8.out).2.1; have D8 := Lib.hid d8; have f8 := (HC.out w8' HB8.out).1; have e8 := (HC.out w8' HB8.out).2.2)))
    go_wp2_with fail
    go_roundw
    all_goals first
     | (simp only [intOf]; omega)
     | exact ⟨j + 1, by go_num, by omega, by rw [show H ++ Sto.enc (c.take (j + 1)) = H ++ Sto.enc (c.take j) ++ [1] ++ [UInt8.ofNat ky.length] ++ ky ++ Sha.big vl.length 2 ++ vl from by rw [HSN.out]; simp [Sto.enc1, List.append_assoc]]; exact HO8.out, HB8.out⟩
   | false =>
    simp only [Sto.enc1, Bool.false_eq_true, if_false, List.length_cons, List.length_append, List.length_nil] at hszl
    have HV3 : Hid ((#[(Value.int .u8 0)] : Array Value)[0]? = some (.int .u8 ((0 : UInt8).toNat : Nat))) := Lib.hid rfl
    have HV4 : Hid ((#[(Value.int .u8 ky.length)] : Array Value)[0]? = some (.int .u8 ((UInt8.ofNat ky.length).toNat : Nat))) := Lib.hid (by rw [hku]; rfl)
    go_upto_region 8 with (first | (at_builtin; go_must (refine wpList_append_byte rfl (.tmp 27) (.tmp 28) 175 rfl w.heap.size 5 Tryz.underlying175 Tryz.byteInfo _ (H ++ Sto.enc (c.take j)) rfl (HO.out.touch (S := fun _ => False) (.of_below (balloc wr (.cells #[.int .u8 0] 5))) (fun _ _ h => h)) wr.heap.size (0) rfl (cell_of (heap_new wr _) HV3.out) (by simp only [List.length_append, List.length_singleton]; omega) (bthen HB.out (balloc wr (.cells #[.int .u8 0] 5))).size ?_; intro v3 w3' ho3 hg3; have HO3 := Lib.hid ho3; have HB3 := Lib.hid (below_grown (bthen HB.out (balloc wr (.cells #[.int .u8 0] 5))) (bthen HB.out (balloc wr (.cells #[.int .u8 0] 5))).size hg3 (fun k hk => (HO.out.lt k hk).1)); clear ho3 hg3; have d3 := (HC.out w3' HB3.out).2.1; have D3 := Lib.hid d3; have f3 := (HC.out w3' HB3.out).1; have e3 := (HC.out w3' HB3.out).2.2)))
    go_upto_region 9 with (first | (at_builtin; go_must (refine wpList_append_byte rfl (.tmp 30) (.tmp 38) 175 rfl w.heap.size 5 Tryz.underlying175 Tryz.byteInfo _ (H ++ Sto.enc (c.take j) ++ [0]) rfl (HO3.out.touch (S := fun _ => False) (.of_below (balloc w3' (.cells #[.int .u8 ky.length] 5))) (fun _ _ h => h)) w3'.heap.size (UInt8.ofNat ky.length) rfl (cell_of (heap_new w3' _) HV4.out) (by simp only [List.length_append, List.length_singleton]; omega) (bthen HB3.out (balloc w3' (.cells #[.int .u8 ky.length] 5))).size ?_; intro v4 w4' ho4 hg4; have HO4 := Lib.hid ho4; have HB4 := Lib.hid (below_grown (bthen HB3.out (balloc w3' (.cells #[.int .u8 ky.length] 5))) (bthen HB3.out (balloc w3' (.cells #[.int .u8 ky.length] 5))).size hg4 (fun k hk => (HO3.out.lt k hk).1)); clear ho4 hg4; have d4 := (HC.out w4' HB4.out).2.1; have D4 := Lib.hid d4; have f4 := (HC.out w4' HB4.out).1; have e4 := (HC.out w4' HB4.out).2.2)))
    go_upto_region 10 with (first | (at_builtin; go_must (refine wpList_append_ownF_string w4' rfl (.tmp 40) (.tmp 45) 175 9 rfl w.heap.size 5 Tryz.underlying175 Tryz.underlying9 Tryz.byteInfo _ (H ++ Sto.enc (c.take j) ++ [0] ++ [UInt8.ofNat ky.length]) rfl HO4.out (ky) rfl (by simp only [List.length_append, List.length_singleton]; omega) HB4.out.size ?_; intro v5 w5' ho5 hg5; have HO5 := Lib.hid ho5; have HB5 := Lib.hid (below_grown HB4.out HB4.out.size hg5 (fun k hk => (HO4.out.lt k hk).1)); clear ho5 hg5; have d5 := (HC.out w5' HB5.out).2.1; have D5 := Lib.hid d5; have f5 := (HC.out w5' HB5.out).1; have e5 := (HC.out w5' HB5.out).2.2)))
    go_wp2_with fail
    go_roundw
    all_goals first
     | (simp only [intOf]; omega)
     | exact ⟨j + 1, by go_num, by omega, by rw [show H ++ Sto.enc (c.take (j + 1)) = H ++ Sto.enc (c.take j) ++ [0] ++ [UInt8.ofNat ky.length] ++ ky from by rw [HSN.out]; simp [Sto.enc1, List.append_assoc]]; exact HO5.out, HB5.out⟩
  ·have hjl : j = c.length := by omega
   have hjb : ¬ (j : Int) < c.length := by omega
   rw [hjl, List.take_length] at HO
   go_wp2_with (first | (refine wpList_convert_string _ rfl 175 9 5 (.tmp 69) rfl Tryz.underlying175 Tryz.underlying5 Tryz.underlying9 rfl HO.out ?_))
   go_ret
   exact ⟨by rw [HE.out]; rfl, HB.out⟩
end Go.Proofs.YtpjpknndfhablaaGreat
namespace Go.Proofs.YtpjpknndfhablaaGreat
open Go.RowKit
theorem Sto.image_cons {l : Sto.Pairs} (h : l ≠ []) : Sto.image l = Sto.encode (Sto.changes [] l) 4 := by
 unfold Sto.image
 rw [if_neg h]
theorem Sto.changes_count (l : Sto.Pairs) : (Sto.changes [] l).length = l.length := by rw [Sto.changes_nil]; simp
set_option maxHeartbeats 2000000 in
set_option maxRecDepth 100000 in
theorem rimage_any (z lg : Nat) (v : Value) (w : World) (s : SS) (h : w.heap[z]? = some (rstoreBlock lg v s)) (hp : PairsAt w v s.ps) (hg : Sto.Good s.ps) (hf : Sto.fits s.ps = true) :
  Calls Tryz.prog 131 #[.pointer (some ⟨z, 0, none⟩)] w fun e w' => e = .returned (.string ⟨(Sto.image s.ps).toArray⟩) ∧ Below w.heap.size w w' := by
 have c1 : w.cell? ⟨z, 1, none⟩ = some v := cell_of h rfl
 have HP := Lib.hid hp
 have hlen := Sto.image_length s.ps hf
 have hfit : s.ps.length ≤ 2048 := by unfold Sto.fits at hf; simp at hf; exact hf.1
 obtain ⟨ao, cap, rfl, _⟩ := hp.read
 by_cases h0 : s.ps = []
 ·have hz : s.ps.length = 0 := by rw [h0]; rfl
  have hzb : ((s.ps.length : Int) == 0) = true := by rw [hz]; rfl
  have HX : Hid (Sto.image s.ps = []) := Lib.hid (by rw [h0]; rfl)
  clear h hp
  go_enter Tryz.func131, Tryz.ntmps131
  go_wp2
  go_ret
  exact ⟨by rw [HX.out]; rfl, Below.refl _ _⟩
 ·have hz : s.ps.length ≠ 0 := fun e => h0 (List.eq_nil_of_length_eq_zero e)
  have hzb : ((s.ps.length : Int) == 0) = false := by rw [beq_eq_false_iff_ne]; omega
  have HX := Lib.hid (Sto.image_cons h0)
  have hfine := Lib.hid (Sto.changes_fine Sto.Good.nil hg)
  rw [Sto.image_cons h0] at hlen
  have hcc := Sto.changes_count s.ps
  clear h hp
  go_enter Tryz.func131, Tryz.ntmps131
  go_wp2_with fail
  refine (rchanges_any (.slice none 0 0) _ [] s.ps w ⟨rfl, .inl ⟨rfl, rfl⟩⟩ HP.out (by simp; omega)).mono ?_
  rintro e w1 ⟨v1, rfl, hc1, _, b1⟩
  have HC1 := Lib.hid hc1
  have HB1 := Lib.hid b1
  clear hc1 b1
  go_wp2_with fail
  refine (rencode_any v1 _ 4 w1 HC1.out hfine.out (by decide) (by omega) (by omega)).mono ?_
  rintro e w2 ⟨rfl, b2⟩
  have HB2 := Lib.hid (bthen HB1.out b2)
  clear b2
  go_wp2
  go_ret
  exact ⟨by rw [HX.out]; rfl, HB2.out⟩
set_option maxHeartbeats 2000000 in
set_option maxRecDepth 100000 in
theorem rcheck11_any (z lg y : Nat) (v : Value) (w : World) (s : SS) (d : DS) (ub : Option Nat) (h : w.heap[z]? = some (rstoreBlock lg v s)) (hl : RlogAt w lg y s.l) (hd : RefAt w y d ub) (hp : PairsAt w v s.ps) (hg : Sto.Good s.ps) (hf : Sto.fits s.ps = true) (hlg : s.l.g ≤ 4611686018427387904) :
  Calls Tryz.prog 78 #[.pointer (some ⟨z, 0, none⟩)] w fun e w' => e = .returned (.int .i64 (s.check d).2.2) ∧ RSWorked z lg y v (s.check d).1 (s.check d).2.1 ub w w' := by
 have c0 : w.cell? ⟨z, 0, none⟩ = some (.pointer (some ⟨lg, 0, none⟩)) := cell_of h rfl
 have c3 : w.cell? ⟨z, 3, none⟩ = some (.bool s.dead) := cell_of h rfl
 have HF := Lib.hid (rst_far h hl hd)
 have HH := Lib.hid h
 have HL := Lib.hid hl
 have HD := Lib.hid hd
 have hil := Sto.image_length s.ps hf
 have HIM := Lib.hid (rimage_any z lg v w.drew s h hp hg hf)
 clear h hl hd hp hg hf
 cases hdd : s.dead with
 | true =>
  rw [hdd] at c3
  have HX : Hid (s.check d = (s, d, 2)) := Lib.hid (by unfold SS.check; rw [if_pos hdd])
  go_enter Tryz.func78, Tryz.ntmps78
  go_wp2
  go_ret
  rw [HX.out]
  exact ⟨rfl, RSWorked.stay HH.out HL.out HD.out (Below.refl _ _)⟩
 | false =>
  rw [hdd] at c3
  obtain ⟨I, hI⟩ : ∃ I, Sto.image s.ps = I := ⟨_, rfl⟩
  obtain ⟨q, hq⟩ : ∃ q, (Wal.checkpoint s.l d I).2.2 = q := ⟨_, rfl⟩
  have HX : Hid (s.check d = ({ s with l := (Wal.checkpoint s.l d I).1, dead := decide (q = 2) }, (Wal.checkpoint s.l d I).2.1, q)) := Lib.hid (by unfold SS.check; rw [if_neg (by simp [hdd]), hI, hq])
  rw [hI] at HIM hil
  have HQ := Lib.hid hq
  have HDD := Lib.hid hdd
  clear hdd hq hI
  go_enter Tryz.func78, Tryz.ntmps78
  go_wp2_with fail
  have hS0 : w.drew.cell? ⟨z, 0, none⟩ = some (.pointer (some ⟨lg, 0, none⟩)) := c0
  refine wp_region_heldL (S := fun w' => w'.cell? ⟨z, 0, none⟩ = some (.pointer (some ⟨lg, 0, none⟩))) (by kernel_rfl) ?_
  refine planned [0, 1, 2, 3, 4, 5] ?_
  iterate 6 (refine planned_take (v := ?_) rfl (by kernel_rfl) (by kernel_rfl) (by kernel_rfl) (fun _ _ _ h => h) ?_ (by assumption) ?_; rotate_left; (focus (first | (refine Or.inr ⟨by rfl, ?_⟩; with_reducible rfl) | (refine Or.inl ⟨by rfl, ?_⟩; (intro w hSw; (try dsimp only at hSw); go_simp); try with_reducible rfl))); try simp only [Act.put, List.setIfInBounds_toArray, List.set_cons_zero, List.set_cons_succ])
  refine planned_end ?_
  refine wpAnyH_oneL (i := 6) rfl (by kernel_rfl) ?_
  intro K hK
  rw [if_pos (by rfl)]
  go_simp
  go_at_call 131
  refine HIM.out.mono ?_
  rintro e w1 ⟨rfl, b1⟩
  have HB1 := Lib.hid (bthen ((Below.refl _ w).drew) b1)
  have hS1 := cell_later b1 hS0
  clear b1
  refine hK _ _ hS1 ?_
  clear hK K
  try simp only [Act.put, List.setIfInBounds_toArray, List.set_cons_zero, List.set_cons_succ]
  refine wpAnyH_oneL (i := 7) rfl (by kernel_rfl) ?_
  intro K hK
  rw [if_pos (by rfl)]
  go_simp
  go_at_call 130
  refine (rcheckL_any lg y w1 s.l d ub I (HL.out.below HB1.out) (HD.out.below HB1.out) (by omega) hlg).mono ?_
  rw [HQ.out]
  rintro e w2 ⟨rfl, hw2⟩
  have HW := Lib.hid hw2
  have HZ2 : Hid (w2.heap[z]? = some (rstoreBlock lg v s)) := Lib.hid ((hw2.touch.block z (heap_lt (stays HH.out HB1.out)) (fun e => by rcases e with e | e; exact HF.out.1 e; exact HF.out.2 e)).trans (stays HH.out HB1.out))
  have hS2 : w2.cell? ⟨z, 0, none⟩ = some (.pointer (some ⟨lg, 0, none⟩)) := cell_of HZ2.out rfl
  clear hw2
  refine hK _ _ hS2 ?_
  clear hK K
  try simp only [Act.put, List.setIfInBounds_toArray, List.set_cons_zero, List.set_cons_succ]
  refine wpAnyH_oneL (i := 8) rfl (by kernel_rfl) ?_
  intro K hK
  rw [if_pos (by rfl)]
  go_simp
  go_at_call 128
  refine (rtold_any z lg v s q w2 HZ2.out).mono ?_
  rintro e w3 ⟨rfl, h3, t3⟩
  have HE := Lib.hid (RSWorked.told HB1.out HW.out h3 t3 HF.out HDD.out HZ2.out)
  have hS3 : w3.cell? ⟨z, 0, none⟩ = some (.pointer (some ⟨lg, 0, none⟩)) := cell_of h3 rfl
  clear h3 t3
  refine hK _ _ hS3 ?_
  clear hK K
  try simp only [Act.put, List.setIfInBounds_toArray, List.set_cons_zero, List.set_cons_succ]
  refine wpAnyH_takeL (i := 9) (v := ?_) rfl (by kernel_rfl) (by kernel_rfl) (by kernel_rfl) (fun _ _ _ h => h) ?_ (by assumption) ?_; rotate_left; focus (first | (refine Or.inr ⟨by rfl, ?_⟩; with_reducible rfl) | (refine Or.inl ⟨by rfl, ?_⟩; (intro w hSw; (try dsimp only at hSw); go_simp); try with_reducible rfl))
  try simp only [Act.put, List.setIfInBounds_toArray, List.set_cons_zero, List.set_cons_succ]
  refine wpAnyH_done (by kernel_rfl) ?_ _
  go_wp2
  go_ret
  rw [HX.out]
  exact ⟨rfl, HE.out⟩
end Go.Proofs.YtpjpknndfhablaaGreat
namespace Go.Proofs.YtpjpknndfhablaaGreat
namespace SS
theorem check_ps (s : SS) (d : DS) : (s.check d).1.ps = s.ps ∧ (s.check d).1.turn = s.turn := by
 unfold SS.check
 split <;> exact ⟨rfl, rfl⟩
theorem making_ps (s : SS) (d : DS) (r : List UInt8) : (s.making d r).1.ps = s.ps ∧ (s.making d r).1.turn = s.turn := by
 unfold SS.making
 split
 ·exact check_ps s d
 ·exact ⟨rfl, rfl⟩
theorem making_lives {s : SS} {d : DS} {r : List UInt8} (hd : s.dead = false) (h : (s.making d r).2.2 = 0) : (s.making d r).1.dead = false := by
 unfold SS.making at h ⊢
 split
 ·rename_i h1
  rw [if_pos h1] at h
  unfold SS.check at h ⊢
  rw [if_neg (by rw [hd]; exact Bool.false_ne_true)] at h ⊢
  show decide _ = false
  rw [h]
  rfl
 ·exact hd
theorem adding_cases (s : SS) (d : DS) (r : List UInt8) (m : Sto.Pairs) : ((s.adding d r m).2.2 ≠ 0 ∧ (s.adding d r m).1.ps = s.ps ∧ (s.adding d r m).1.turn = s.turn) ∨ ((s.adding d r m).2.2 = 0 ∧ (s.adding d r m).1.ps = m ∧ (s.adding d r m).1.turn = s.turn + 1 ∧ (s.adding d r m).1.dead = s.dead) := by
 unfold SS.adding
 split
 ·rename_i h; exact .inl ⟨h, rfl, rfl⟩
 ·exact .inr ⟨rfl, rfl, rfl, rfl⟩
theorem taking_cases (s : SS) (d : DS) (c : List Sto.Ch) (m : Sto.Pairs) (hd : s.dead = false) : ((s.taking d c m).2.2 ≠ 0 ∧ (s.taking d c m).1.ps = s.ps ∧ (s.taking d c m).1.turn = s.turn) ∨ ((s.taking d c m).2.2 = 0 ∧ (s.taking d c m).1.ps = m ∧ (s.taking d c m).1.turn = s.turn + 1 ∧ (s.taking d c m).1.dead = false) := by
 obtain ⟨h1, h2⟩ := making_ps s d (Sto.encode c 2)
 unfold SS.taking
 split
 ·rename_i h; exact .inl ⟨h, h1, h2⟩
 ·rename_i h
  have hl := making_lives hd (Classical.not_not.1 h)
  rcases adding_cases (s.making d (Sto.encode c 2)).1 (s.making d (Sto.encode c 2)).2.1 (Sto.encode c 2) m with ⟨a, b, e⟩ | ⟨a, b, e, f⟩
  ·exact .inl ⟨a, b.trans h1, e.trans h2⟩
  ·exact .inr ⟨a, b, by rw [e, h2], f.trans hl⟩
/-- Behind a commit the pairs are what they were, or what the transaction saw. -/
theorem commit_cases (s : SS) (t : TS) (d : DS) : ((s.commit t d).2.2 ≠ 0 ∧ (s.commit t d).1.ps = s.ps ∧ (s.commit t d).1.turn = s.turn) ∨
  ((s.commit t d).2.2 = 0 ∧ s.turn = t.turn ∧ t.over = false ∧ s.dead = false ∧ Sto.changes t.was t.now = [] ∧ s.commit t d = (s, d, 0)) ∨
  ((s.commit t d).2.2 = 0 ∧ s.turn = t.turn ∧ t.over = false ∧ s.dead = false ∧ Sto.does s.ps (Sto.changes t.was t.now) = some (s.commit t d).1.ps ∧ (s.commit t d).1.turn = s.turn + 1 ∧ (s.commit t d).1.dead = false) := by
 unfold SS.commit
 split
 ·exact .inl ⟨(fun e => by cases e), rfl, rfl⟩
 ·rename_i h1
  split
  ·exact .inl ⟨(fun e => by cases e), rfl, rfl⟩
  ·rename_i h2
   split
   ·exact .inl ⟨(fun e => by cases e), rfl, rfl⟩
   ·rename_i h3
    have h3' := Classical.not_not.1 h3
    have h1' : t.over = false := by cases ho : t.over; rfl; exact absurd ho h1
    have h2' : s.dead = false := by cases ho : s.dead; rfl; exact absurd ho h2
    split
    ·rename_i h4
     exact .inr (.inl ⟨rfl, h3', h1', h2', h4, rfl⟩)
    ·split
     ·exact .inl ⟨(fun e => by cases e), rfl, rfl⟩
     ·cases hdo : Sto.does s.ps (Sto.changes t.was t.now) with
      | none => exact .inl ⟨(fun e => by cases e), rfl, rfl⟩
      | some m =>
       rcases taking_cases s d (Sto.changes t.was t.now) m h2' with ⟨a, b, e⟩ | ⟨a, b, e, f⟩
       ·exact .inl ⟨a, b, e⟩
       ·exact .inr (.inr ⟨a, h3', h1', h2', by show some m = some _; rw [b], e, f⟩)
end SS
end Go.Proofs.YtpjpknndfhablaaGreat
namespace Go.Proofs.YtpjpknndfhablaaGreat
open Go.RowKit
/-- Pairs lie apart from what a commit turns. -/
def RSep (z lg y u : Nat) (v : Value) : Prop := ∀ g, v.ownBlock = some g → g ≠ z ∧ g ≠ lg ∧ g ≠ y ∧ g ≠ u
/-- On the way through a commit. -/
structure RMid (z lg y u : Nat) (v v1 v2 : Value) (s : SS) (t : TS) (d : DS) (ub : Option Nat) (w w' : World) : Prop where
 st : w'.heap[z]? = some (rstoreBlock lg v s)
 log : RlogAt w' lg y s.l
 tx : w'.heap[u]? = some (rtxBlock z v1 v2 t)
 disk : ∃ ub', RefAt w' y d ub' ∧ Newer w ub ub'
 prs : PairsAt w' v s.ps
 touch : Touch (fun k => ownR y lg k ∨ k = z ∨ k = u) w w'
section
variable {z lg y u : Nat} {v v1 v2 : Value} {s : SS} {t : TS} {d : DS} {ub : Option Nat} {w w1 w2 : World}
theorem RMid.far (h : RMid z lg y u v v1 v2 s t d ub w w1) : u ≠ z ∧ u ≠ lg ∧ u ≠ y ∧ z ≠ y ∧ z ≠ lg := by
 obtain ⟨ub', hd, _⟩ := h.disk
 obtain ⟨a, b⟩ := rst_far h.st h.log hd
 obtain ⟨_, us, hr, _⟩ := hd
 refine ⟨fun e => ?_, fun e => ?_, fun e => ?_, a, b⟩
 ·have := h.st; rw [← e, h.tx] at this; simp [rtxBlock, rstoreBlock] at this
 ·have h2 : w1.heap[lg]? = some (rlogBlock y s.l) := h.log
  rw [← e, h.tx] at h2; simp [rlogBlock, rtxBlock] at h2
 ·have := hr.blk; rw [← e, h.tx] at this; simp [refBlock, rtxBlock] at this
theorem RMid.below (h : RMid z lg y u v v1 v2 s t d ub w w1) (hb : Below w1.heap.size w1 w2) : RMid z lg y u v v1 v2 s t d ub w w2 := by
 obtain ⟨ub', hd, hn⟩ := h.disk
 exact ⟨stays h.st hb, h.log.below hb, stays h.tx hb, ⟨ub', hd.below hb, hn⟩, h.prs.below hb, h.touch.trans (T := fun _ => False) (Touch.of_below hb) (fun _ _ e => e.elim)⟩
theorem RefAt.ub_far (h : RefAt w y d ub) {k : Nat} {cs : Array Value} {ty : TypeId} {f : Nat × Nat} (hk : w.heap[k]? = some (.cells cs ty f)) (hty : ty ≠ 177) : ub ≠ some k := by
 obtain ⟨_, us, hr, hrb⟩ := h
 intro e
 rw [← hrb] at e
 rcases hr.own.2 with ⟨hv, _⟩ | ⟨g, cap, cur, hv, _, hg, _⟩
 ·rw [hv] at e; cases e
 ·rw [hv] at e
  have e1 : g = k := Option.some.inj e
  subst e1
  rw [hk] at hg
  cases hg
  exact hty rfl
/-- The transaction has ended. -/
theorem RMid.ended (h : RMid z lg y u v v1 v2 s t d ub w w1) (hs : RSep z lg y u v) (h2 : w2.heap[u]? = some (rtxBlock z v1 (.slice none 0 0) t.ends)) (ht : Touch (· = u) w1 w2) : RMid z lg y u v v1 (.slice none 0 0) s t.ends d ub w w2 := by
 obtain ⟨f1, f2, f3, _, _⟩ := h.far
 obtain ⟨ub', hd, hn⟩ := h.disk
 have hu : ub' ≠ some u := hd.ub_far h.tx (by decide)
 refine ⟨(ht.block z (heap_lt h.st) (fun e => f1 e.symm)).trans h.st, h.log.touch ht (fun e => f2 e.symm), h2, ⟨ub', hd.touch ht (fun k hk e => ?_), hn⟩, h.prs.touch ht (fun g hg e => (hs g hg).2.2.2 e), h.touch.trans ht (fun _ _ e => .inr (.inr e))⟩
 rcases hk with rfl | hk
 ·exact f3 e.symm
 ·rw [e] at hk; exact hu hk
/-- The store has worked. -/
theorem RMid.worked (h : RMid z lg y u v v1 v2 s t d ub w w1) (hs : RSep z lg y u v) {s' : SS} {d' : DS} {ub1 : Option Nat} (_hub : RefAt w1 y d ub1) (hn1 : Newer w ub ub1) (hw : RSWorked z lg y v s' d' ub1 w1 w2) (hps : s'.ps = s.ps) : RMid z lg y u v v1 v2 s' t d' ub w w2 := by
 obtain ⟨f1, f2, f3, _, _⟩ := h.far
 obtain ⟨ub', hd, hn⟩ := hw.disk
 refine ⟨hw.blk, hw.log, (hw.touch.block u (heap_lt h.tx) (fun e => ?_)).trans h.tx, ⟨ub', hd, fun k hk => ?_⟩, ?_, h.touch.trans hw.touch (fun _ _ e => by rcases e with e | e; exact .inl e; exact .inr (.inl e))⟩
 ·rcases e with (e | e) | e
  ·exact f3 e
  ·exact f2 e
  ·exact f1 e
 ·rcases hn k hk with e | e
  ·exact hn1 k e
  ·exact .inr (Nat.le_trans h.touch.size e)
 ·rw [hps]
  exact h.prs.touch hw.touch (fun g hg e => by
   obtain ⟨a, b, c, _⟩ := hs g hg
   rcases e with (e | e) | e
   ·exact c e
   ·exact b e
   ·exact a e)
end
theorem rst_set {w : World} {z lg : Nat} {v : Value} {s : SS} (h : w.heap[z]? = some (rstoreBlock lg v s)) (v' : Value) (l : Sto.Pairs) : ((w.setCell ⟨z, 1, none⟩ v').setCell ⟨z, 2, none⟩ (.int .i64 ((s.turn : Int) + 1))).heap[z]? = some (rstoreBlock lg v' { s with ps := l, turn := s.turn + 1 }) := by
 have := heap_set (i := 2) (.int .i64 ((s.turn : Int) + 1)) (heap_set (i := 1) v' h)
 simpa [rstoreBlock] using this
theorem RMid.stored {z lg y u : Nat} {v v' v1 v2 : Value} {s : SS} {t : TS} {d : DS} {ub : Option Nat} {w w1 : World} {l : Sto.Pairs} (h : RMid z lg y u v v1 v2 s t d ub w w1) (hp : PairsAt w1 v' l) (hs : ∀ g, v'.ownBlock = some g → g ≠ z) :
  RMid z lg y u v' v1 v2 { s with ps := l, turn := s.turn + 1 } t d ub w ((w1.setCell ⟨z, 1, none⟩ v').setCell ⟨z, 2, none⟩ (.int .i64 ((s.turn : Int) + 1))) := by
 obtain ⟨f1, f2, f3, f4, f5⟩ := h.far
 obtain ⟨ub', hd, hn⟩ := h.disk
 have hu : ub' ≠ some z := hd.ub_far h.st (by decide)
 have ht : Touch (· = z) w1 ((w1.setCell ⟨z, 1, none⟩ v').setCell ⟨z, 2, none⟩ (.int .i64 ((s.turn : Int) + 1))) := ((Touch.refl (· = z) w1).setCell _ (fun _ => rfl)).setCell _ (fun _ => rfl)
 refine ⟨rst_set h.st v' l, h.log.touch ht (fun e => f5 e.symm), (ht.block u (heap_lt h.tx) f1).trans h.tx, ⟨ub', hd.touch ht (fun k hk e => ?_), hn⟩, hp.touch ht (fun g hg e => hs g hg e), h.touch.trans ht (fun _ _ e => .inr (.inl e))⟩
 rcases hk with rfl | hk
 ·exact f4 e.symm
 ·rw [e] at hk; exact hu hk
/-- How a commit ends. -/
def RCEnds (z lg y u : Nat) (v v1 v2 : Value) (R : SS × DS × Int) (t : TS) (ub : Option Nat) (w : World) (e : Ending) (w' : World) : Prop :=
 e = .returned (.int .i64 R.2.2) ∧ ∃ v', (v' = v ∨ ∀ g, v'.ownBlock = some g → w.heap.size ≤ g) ∧ RMid z lg y u v' v1 v2 R.1 t R.2.1 ub w w'
theorem RCEnds.same {z lg y u : Nat} {v v1 v2 : Value} {s : SS} {d : DS} {r : Int} {t : TS} {ub : Option Nat} {w w' : World} {e : Ending} (he : e = .returned (.int .i64 r)) (h : RMid z lg y u v v1 v2 s t d ub w w') : RCEnds z lg y u v v1 v2 (s, d, r) t ub w e w' := ⟨he, v, .inl rfl, h⟩
set_option maxHeartbeats 8000000 in
set_option maxRecDepth 100000 in
theorem rcommit_any (z lg y u : Nat) (v v1 v2 : Value) (w : World) (s : SS) (t : TS) (d : DS) (ub : Option Nat) (h : RMid z lg y u v v1 v2 s t d ub w w) (hp1 : PairsAt w v1 t.was) (hp2 : PairsAt w v2 t.now) (hs : RSep z lg y u v)
  (hg : Sto.Good s.ps) (hf : Sto.fits s.ps = true) (hgw : Sto.Good t.was) (hgn : Sto.Good t.now) (hlg : s.l.g ≤ 4611686018427387904) (hln : s.l.n ≤ 4611686018427387904) (hl1 : t.now.length ≤ 4194304) (hl2 : t.was.length ≤ 4096) (hturn : s.turn ≤ 4611686018427387904) :
  Calls Tryz.prog 135 #[.pointer (some ⟨u, 0, none⟩)] w (RCEnds z lg y u v v1 (if t.over then v2 else .slice none 0 0) (s.commit t d) t.ended ub w) := by
 have HM := Lib.hid h
 have HSEP := Lib.hid hs
 have HP1 := Lib.hid hp1
 have HP2 := Lib.hid hp2
 have HG := Lib.hid (And.intro hg hf)
 have x4 : w.cell? ⟨u, 4, none⟩ = some (.bool t.over) := cell_of h.tx rfl
 have x0 : w.cell? ⟨u, 0, none⟩ = some (.pointer (some ⟨z, 0, none⟩)) := cell_of h.tx rfl
 have HFAR := Lib.hid h.far
 cases hov : t.over with
 | true =>
  have HX : Hid (s.commit t d = (s, d, 114)) := Lib.hid (by unfold SS.commit; rw [if_pos hov])
  have HY : Hid (t.ended = t) := Lib.hid (by unfold TS.ended; rw [if_pos hov])
  rw [hov] at x4
  clear h hs hp1 hp2 hov
  go_enter Tryz.func135, Tryz.ntmps135
  go_wp2
  go_ret
  rw [HX.out, HY.out]
  exact RCEnds.same rfl HM.out
 | false =>
  rw [hov] at x4
  have HO := Lib.hid hov
  have HY : Hid (t.ended = t.ends) := Lib.hid (by unfold TS.ended; rw [if_neg (by rw [hov]; exact Bool.false_ne_true)])
  have HFI := Lib.hid (Sto.changes_fine hgw hgn)
  have hcl := Sto.changes_len hgw.rise hgn.rise
  have HEL := Lib.hid (Sto.encode_le HFI.out 2)
  have HX : Hid (s.commit t d = if s.dead then (s, d, 2) else if s.turn ≠ t.turn then (s, d, 114) else if Sto.changes t.was t.now = [] then (s, d, 0) else
   if 512 < (Sto.changes t.was t.now).length ∨ 65536 < (Sto.encode (Sto.changes t.was t.now) 2).length then (s, d, 112) else
   match Sto.does s.ps (Sto.changes t.was t.now) with
   | none => (s, d, 113)
   | some m => s.taking d (Sto.changes t.was t.now) m) := Lib.hid (by unfold SS.commit; rw [if_neg (by rw [HO.out]; exact Bool.false_ne_true)]; rfl)
  have hwl := hgw
  have HCH := Lib.hid (fun (wt : World) (hb : Below w.heap.size w wt) => rchanges_any v1 v2 t.was t.now wt (HP1.out.below hb) (HP2.out.below hb) (by omega))
  obtain ⟨C, hC⟩ : ∃ C, Sto.changes t.was t.now = C := ⟨_, rfl⟩
  rw [hC] at HCH HFI hcl HEL HX
  replace hcl : C.length ≤ 4198400 := by omega
  obtain ⟨E, hE⟩ : ∃ E, Sto.encode C 2 = E := ⟨_, rfl⟩
  rw [hE] at HEL HX
  have HEE := Lib.hid hE
  have hEl : E.length ≤ 17486336002 := by have := HEL.out; omega
  obtain ⟨a1, k1, rfl, _⟩ := hp1.read
  obtain ⟨a2, k2, rfl, _⟩ := hp2.read
  clear h hs hp1 hp2 hov hC hE hg hf hgw hgn hl1 hl2 hwl
  go_enter Tryz.func135, Tryz.ntmps135
  go_wp2_with fail
  refine region_tail 8 (by kernel_rfl) (by kernel_rfl) ?_
  intro wt hwt
  have bt : Below w.heap.size w wt := by rw [hwt.out]; exact (Below.refl _ _).drew
  have BT := Lib.hid bt
  have HMT := Lib.hid (HM.out.below bt)
  have y1 : wt.cell? ⟨u, 1, none⟩ = some (.slice a1 t.was.length k1) := cell_of HMT.out.tx rfl
  have y2 : wt.cell? ⟨u, 2, none⟩ = some (.slice a2 t.now.length k2) := cell_of HMT.out.tx rfl
  clear bt hwt x4 x0
  simp only [List.take_succ_cons, List.take_zero, List.drop_succ_cons, List.drop_zero]
  iterate 8 still_step
  refine wpStill_nil ?_
  go_wp2_with fail
  refine (HCH.out wt BT.out).mono ?_
  rintro e w1 ⟨vc, rfl, hch, hfr, b1⟩
  have HM1 := Lib.hid (HMT.out.below b1)
  have HC1 := Lib.hid hch
  have HFR : Hid (∀ g, vc.ownBlock = some g → w.heap.size ≤ g) := Lib.hid (fun g hg => Nat.le_trans BT.out.size (hfr g hg))
  obtain ⟨ac, kc, rfl, _⟩ := chsAt_read hch
  have hult : u < w.heap.size := heap_lt HM.out.tx
  have hzlt : z < w.heap.size := heap_lt HM.out.st
  clear hch hfr b1 y1 y2
  go_wp2_with fail
  refine (rabort_any z u _ _ t w1 HM1.out.tx).mono ?_
  rintro e w2 ⟨rfl, hx2, ht2⟩
  have HM2 := Lib.hid (HM1.out.ended HSEP.out hx2 ht2)
  have HC2 := Lib.hid (HC1.out.touch ht2 (fun g hg e => by have := HFR.out g hg; omega))
  clear hx2 ht2
  have z0 : w2.cell? ⟨z, 0, none⟩ = some (.pointer (some ⟨lg, 0, none⟩)) := cell_of HM2.out.st rfl
  have z1 : w2.cell? ⟨z, 1, none⟩ = some v := cell_of HM2.out.st rfl
  have z2 : w2.cell? ⟨z, 2, none⟩ = some (.int .i64 s.turn) := cell_of HM2.out.st rfl
  have z3 : w2.cell? ⟨z, 3, none⟩ = some (.bool s.dead) := cell_of HM2.out.st rfl
  have x3 : w2.cell? ⟨u, 3, none⟩ = some (.int .i64 t.turn) := cell_of HM2.out.tx rfl
  cases hdd : s.dead with
  | true =>
   rw [hdd] at z3
   have HZ : Hid (s.commit t d = (s, d, 2)) := Lib.hid (by rw [HX.out, if_pos hdd])
   clear hdd
   go_wp2
   go_ret
   rw [HZ.out, HY.out]
   exact RCEnds.same rfl HM2.out
  | false =>
   rw [hdd] at z3
   have HDD := Lib.hid hdd
   rw [if_neg (by rw [hdd]; exact Bool.false_ne_true)] at HX
   clear hdd
   by_cases htu : s.turn = t.turn
   ·have htb : ((s.turn : Int) != (t.turn : Int)) = false := by rw [htu]; simp
    rw [if_neg (fun e => e htu)] at HX
    go_wp2_with fail
    go_quiet (fail)
    rename_i nq
    have BQ := Lib.hid (below_drewN (Below.refl w2.heap.size w2) nq)
    obtain ⟨w3, hw3⟩ : ∃ W, w2.drewN nq = W := ⟨_, rfl⟩
    rw [hw3] at BQ ⊢
    have HM3 := Lib.hid (HM2.out.below BQ.out)
    have HC3 := Lib.hid (HC2.out.below BQ.out)
    clear hw3 z0 z1 z2 z3 x3 HM2 HC2 htb htu
    have z0 : w3.cell? ⟨z, 0, none⟩ = some (.pointer (some ⟨lg, 0, none⟩)) := cell_of HM3.out.st rfl
    have z1 : w3.cell? ⟨z, 1, none⟩ = some v := cell_of HM3.out.st rfl
    by_cases hc0 : C.length = 0
    ·have hcb : ((C.length : Int) == 0) = true := by rw [hc0]; rfl
     have hcn : C = [] := List.eq_nil_of_length_eq_zero hc0
     rw [if_pos hcn] at HX
     go_wp2
     go_ret
     rw [HX.out, HY.out]
     exact RCEnds.same rfl HM3.out
    ·have hcb : ((C.length : Int) == 0) = false := by rw [beq_eq_false_iff_ne]; omega
     have hcn : C ≠ [] := fun e => hc0 (by rw [e]; rfl)
     rw [if_neg hcn] at HX
     by_cases hc5 : 512 < C.length
     ·rw [if_pos (.inl hc5)] at HX
      go_wp2
      go_ret
      rw [HX.out, HY.out]
      exact RCEnds.same rfl HM3.out
     ·have hnum := rencode_any (.slice ac C.length kc) C 2 w3 HC3.out HFI.out (by decide) (by rw [HEE.out]; omega) (by omega)
      rw [HEE.out] at hnum
      have HN3 := Lib.hid hnum
      clear hnum
      go_wp2_with fail
      refine HN3.out.mono ?_
      rintro e w4 ⟨rfl, b4⟩
      have HM4 := Lib.hid (HM3.out.below b4)
      have HC4 := Lib.hid (HC3.out.below b4)
      have y1 : w4.cell? ⟨z, 1, none⟩ = some v := cell_later b4 z1
      have y0 : w4.cell? ⟨z, 0, none⟩ = some (.pointer (some ⟨lg, 0, none⟩)) := cell_later b4 z0
      clear b4 z0 z1 HN3 HM3 HC3
      by_cases hc6 : 65536 < E.length
      ·rw [if_pos (.inr hc6)] at HX
       go_wp2
       go_ret
       rw [HX.out, HY.out]
       exact RCEnds.same rfl HM4.out
      ·rw [if_neg (fun e => e.elim hc5 hc6)] at HX
       have hfew : s.ps.length ≤ 4096 := by have := HG.out.2; unfold Sto.fits at this; simp at this; omega
       have hdo := rdoes11_any v (.slice ac C.length kc) s.ps C w4 HM4.out.prs HC4.out HG.out.1 HFI.out (by omega)
       cases hds : Sto.does s.ps C with
       | none =>
        rw [hds] at hdo HX
        have HDO := Lib.hid hdo
        clear hdo hds
        go_wp2_with fail
        refine HDO.out.mono ?_
        rintro e w5 ⟨v', rfl, _, _, b5⟩
        have HM5 := Lib.hid (HM4.out.below b5)
        clear b5
        go_wp2
        go_ret
        rw [HX.out, HY.out]
        exact RCEnds.same rfl HM5.out
       | some m =>
        rw [hds] at hdo HX
        have HDO := Lib.hid hdo
        clear hdo hds
        go_wp2_with fail
        refine HDO.out.mono ?_
        rintro e w5 ⟨v', rfl, hp5, hf5, b5⟩
        have hp5 := hp5 m rfl
        have HM5 := Lib.hid (HM4.out.below b5)
        have HC5 := Lib.hid (HC4.out.below b5)
        have HP5 := Lib.hid hp5
        have hlgl : lg < w.heap.size := heap_lt (show w.heap[lg]? = some (rlogBlock y s.l) from HM.out.log)
        have hyl : y < w.heap.size := by
         obtain ⟨_, hd0, _⟩ := HM.out.disk
         obtain ⟨_, us, hr, _⟩ := hd0
         exact heap_lt hr.blk
        have hw4 : w.heap.size ≤ w4.heap.size := HM4.out.touch.size
        have HVV : Hid (v' = v ∨ ∀ g, v'.ownBlock = some g → w.heap.size ≤ g) := Lib.hid (hf5.imp id (fun h g hg => Nat.le_trans hw4 (h g hg)))
        have HSV : Hid (RSep z lg y u v') := Lib.hid (fun g hg => by
         rcases HVV.out with h | h
         ·exact HSEP.out g (h ▸ hg)
         ·have := h g hg
          omega)
        obtain ⟨av, kv, hvv, _⟩ := hp5.read
        obtain ⟨nv, hnv⟩ : ∃ n, m.length = n := ⟨_, rfl⟩
        rw [hnv] at hvv
        subst hvv
        have z0 := cell_later b5 y0
        have HTK0 : Hid (s.taking d C m = if (s.making d E).2.2 ≠ 0 then s.making d E else (s.making d E).1.adding (s.making d E).2.1 E m) := Lib.hid (by unfold SS.taking; rw [HEE.out])
        clear hp5 hf5 b5 y0 y1 HM4 HC4 HDO hfew hnv
        obtain ⟨ub5, hd5, hn5⟩ := HM5.out.disk
        go_wp2_with fail
        refine (rroomL_any lg y w5 s.l d ub5 HM5.out.log hd5).mono ?_
        rintro e w6 ⟨rfl, b6⟩
        have HM6 := Lib.hid (HM5.out.below b6)
        have HC6 := Lib.hid (HC5.out.below b6)
        have HP6 := Lib.hid (HP5.out.below b6)
        have HN6 := rencode_any (.slice ac C.length kc) C 2 w6 HC6.out HFI.out (by decide) (by rw [HEE.out]; omega) (by omega)
        rw [HEE.out] at HN6
        have HN6 := Lib.hid HN6
        clear b6 HM5 HC5 HP5 hd5 hn5 z0
        go_wp2_with fail
        refine HN6.out.mono ?_
        rintro e w7 ⟨rfl, b7⟩
        have HM7 := Lib.hid (HM6.out.below b7)
        have HC7 := Lib.hid (HC6.out.below b7)
        have HP7 := Lib.hid (HP6.out.below b7)
        clear b7 HM6 HC6 HP6 HN6
        obtain ⟨rm, hrm⟩ : ∃ r, Wal.room s.l d = r := ⟨_, rfl⟩
        have HRM := Lib.hid hrm
        rw [hrm]
        clear hrm
        by_cases hroom : rm < (E.length : Int)
        ·have HMK : Hid (s.making d E = s.check d) := Lib.hid (by unfold SS.making; rw [HRM.out, if_pos hroom])
         obtain ⟨ub7, hd7, hn7⟩ := HM7.out.disk
         have hce := rcheck11_any z lg y v w7 s d ub7 HM7.out.st HM7.out.log hd7 HM7.out.prs HG.out.1 HG.out.2 hlg
         have hcps := SS.check_ps s d
         obtain ⟨R1, hR1⟩ : ∃ R, s.check d = R := ⟨_, rfl⟩
         have hnn : (s.check d).1.l.n ≤ s.l.n := by
          unfold SS.check
          split
          ·exact Nat.le_refl _
          ·exact cp_few
         have hlv : (s.check d).2.2 = 0 → (s.check d).1.dead = false := fun e => by
          have := SS.making_lives (s := s) (d := d) (r := E) HDD.out (by rw [HMK.out]; exact e)
          rw [HMK.out] at this
          exact this
         rw [hR1] at hce hcps HMK hnn hlv
         obtain ⟨s1, d1, r1⟩ := R1
         simp only at hcps hnn hlv
         have HWK := Lib.hid (fun (wk : World) (h : RSWorked z lg y v s1 d1 ub7 w7 wk) => HM7.out.worked HSEP.out hd7 hn7 h hcps.1)
         have HCE := Lib.hid hce
         rw [HMK.out] at HTK0
         clear hce hR1 hd7 hn7 HMK
         go_wp2_with fail
         refine HCE.out.mono ?_
         rintro e wk ⟨rfl, hwk⟩
         have HMX := Lib.hid (HWK.out wk hwk)
         have HCX := Lib.hid (HC7.out.touch hwk.touch (fun g hg e => by
          have h1 := HFR.out g hg
          rcases e with (e | e) | e <;> omega))
         have HPX := Lib.hid (HP7.out.touch hwk.touch (fun g hg e => by
          obtain ⟨a, b, c, _⟩ := HSV.out g hg
          rcases e with (e | e) | e
          ·exact c e
          ·exact b e
          ·exact a e))
         clear hwk HWK HCE HM7 HC7 HP7
         have HM7 := Lib.hid HMX.out
         have HC7 := Lib.hid HCX.out
         have HP7 := Lib.hid HPX.out
         clear HMX HCX HPX
         by_cases hr0 : r1 = 0
         ·subst hr0
          have HD1 : Hid (s1.dead = false) := Lib.hid (hlv rfl)
          have HTK : Hid (s.taking d C m = s1.adding d1 E m) := Lib.hid (by rw [HTK0.out, if_neg (fun e => e rfl)])
          have HLN1 : Hid (s1.l.n ≤ 4611686018427387904) := Lib.hid (by omega)
          have ht1 : s1.turn ≤ 4611686018427387904 := by rw [hcps.2]; exact hturn
          clear HTK0 hlv hcps hnn
          obtain ⟨ub7, hd7, hn7⟩ := HM7.out.disk
          obtain ⟨q, hq⟩ : ∃ q, (Wal.append s1.l d1 E).2.2 = q := ⟨_, rfl⟩
          have HQ := Lib.hid hq
          have HADD : Hid (s1.adding d1 E m = if q ≠ 0 then ({ s1 with l := (Wal.append s1.l d1 E).1, dead := decide (q = 2) }, (Wal.append s1.l d1 E).2.1, q) else ({ s1 with l := (Wal.append s1.l d1 E).1, ps := m, turn := s1.turn + 1 }, (Wal.append s1.l d1 E).2.1, 0)) := Lib.hid (by unfold SS.adding; rw [hq])
          have HD7 := Lib.hid hd7
          have HNW7 := Lib.hid hn7
          have HN7 := Lib.hid (fun (wt : World) (hb : Below wk.heap.size wk wt) => rencode_any (.slice ac C.length kc) C 2 wt (HC7.out.below hb) HFI.out (by decide) (by rw [HEE.out]; omega) (by omega))
          rw [HEE.out] at HN7
          clear hd7 hn7 hq
          have hS0 : wk.drew.cell? ⟨z, 0, none⟩ = some (.pointer (some ⟨lg, 0, none⟩)) := cell_of HM7.out.st rfl
          go_wp2_with fail
          refine wp_region_heldL (S := fun w' => w'.cell? ⟨z, 0, none⟩ = some (.pointer (some ⟨lg, 0, none⟩))) (by kernel_rfl) ?_
          refine planned [0, 1, 2, 3, 4, 5] ?_
          iterate 6 (refine planned_take (v := ?_) rfl (by kernel_rfl) (by kernel_rfl) (by kernel_rfl) (fun _ _ _ h => h) ?_ (by assumption) ?_; rotate_left; (focus (first | (refine Or.inr ⟨by rfl, ?_⟩; with_reducible rfl) | (refine Or.inl ⟨by rfl, ?_⟩; (intro w hSw; (try dsimp only at hSw); go_simp); try with_reducible rfl))); try simp only [Act.put, List.setIfInBounds_toArray, List.set_cons_zero, List.set_cons_succ])
          refine planned_end ?_
          refine wpAnyH_oneL (i := 6) rfl (by kernel_rfl) ?_
          intro K hK
          rw [if_pos (by rfl)]
          go_simp
          go_at_call 162
          refine (HN7.out _ (Below.refl _ _).drew).mono ?_
          rintro e w8 ⟨rfl, b8⟩
          have B8 := Lib.hid (bthen ((Below.refl _ wk).drew) b8)
          have HM8 := Lib.hid (HM7.out.below B8.out)
          have HP8 := Lib.hid (HP7.out.below B8.out)
          have hS1 := cell_later b8 hS0
          clear b8
          refine hK _ _ hS1 ?_
          clear hK K
          try simp only [Act.put, List.setIfInBounds_toArray, List.set_cons_zero, List.set_cons_succ]
          refine wpAnyH_oneL (i := 7) rfl (by kernel_rfl) ?_
          intro K hK
          rw [if_pos (by rfl)]
          go_simp
          go_at_call 165
          refine (rappendL_any lg y w8 s1.l d1 ub7 E HM8.out.log (HD7.out.below B8.out) (by omega) HLN1.out).mono ?_
          rw [HQ.out]
          rintro e w9 ⟨rfl, hw9⟩
          have HW9 := Lib.hid hw9
          have HZ9 : Hid (w9.heap[z]? = some (rstoreBlock lg v s1)) := Lib.hid ((hw9.touch.block z (heap_lt HM8.out.st) (fun e => by rcases e with e | e; exact HFAR.out.2.2.2.1 e; exact HFAR.out.2.2.2.2 e)).trans HM8.out.st)
          have hS2 : w9.cell? ⟨z, 0, none⟩ = some (.pointer (some ⟨lg, 0, none⟩)) := cell_of HZ9.out rfl
          clear hw9
          refine hK _ _ hS2 ?_
          clear hK K
          try simp only [Act.put, List.setIfInBounds_toArray, List.set_cons_zero, List.set_cons_succ]
          refine wpAnyH_oneL (i := 8) rfl (by kernel_rfl) ?_
          intro K hK
          rw [if_pos (by rfl)]
          go_simp
          go_at_call 128
          refine (rtold_any z lg v s1 q w9 HZ9.out).mono ?_
          rintro e wa ⟨rfl, ha, ta⟩
          have HE := Lib.hid (RSWorked.told B8.out HW9.out ha ta HFAR.out.2.2.2 HD1.out HZ9.out)
          have hSa : wa.cell? ⟨z, 0, none⟩ = some (.pointer (some ⟨lg, 0, none⟩)) := cell_of ha rfl
          clear ha ta
          refine hK _ _ hSa ?_
          clear hK K
          try simp only [Act.put, List.setIfInBounds_toArray, List.set_cons_zero, List.set_cons_succ]
          refine wpAnyH_takeL (i := 9) (v := ?_) rfl (by kernel_rfl) (by kernel_rfl) (by kernel_rfl) (fun _ _ _ h => h) ?_ (by assumption) ?_; rotate_left; focus (first | (refine Or.inr ⟨by rfl, ?_⟩; with_reducible rfl) | (refine Or.inl ⟨by rfl, ?_⟩; (intro w hSw; (try dsimp only at hSw); go_simp); try with_reducible rfl))
          try simp only [Act.put, List.setIfInBounds_toArray, List.set_cons_zero, List.set_cons_succ]
          refine wpAnyH_done (by kernel_rfl) ?_ _
          have HMA := Lib.hid (HM7.out.worked HSEP.out HD7.out HNW7.out HE.out rfl)
          have HPA : Hid (PairsAt wa (.slice av nv kv) m) := Lib.hid (HP7.out.touch HE.out.touch (fun g hg e => by
           obtain ⟨a, b, c, _⟩ := HSV.out g hg
           rcases e with (e | e) | e
           ·exact c e
           ·exact b e
           ·exact a e))
          clear HE HW9 HZ9 HM8 HP8 B8 hSa hS0 hS1 hS2 HN7
          by_cases hq0 : q = 0
          ·subst hq0
           rw [if_neg (fun e => e rfl)] at HADD
           have u1 : wa.cell? ⟨z, 1, none⟩ = some v := cell_of HMA.out.st rfl
           have u2 : wa.cell? ⟨z, 2, none⟩ = some (.int .i64 s1.turn) := cell_of HMA.out.st rfl
           have uf := free_of HMA.out.st
           have uf1 := uf 1
           have uf2 := uf 2
           clear uf
           go_wp2
           go_ret
           rw [HX.out, HTK.out, HADD.out, HY.out]
           refine ⟨rfl, _, HVV.out, ?_⟩
           have hst := HMA.out.stored HPA.out (fun g hg => (HSV.out g hg).1)
           have hd0 : decide ((0 : Int) = 2) = s1.dead := by rw [HD1.out]; rfl
           rw [hd0] at hst
           exact hst
          ·have hqb : (q != 0) = true := by simp [hq0]
           rw [if_pos hq0] at HADD
           go_wp2
           go_ret
           rw [HX.out, HTK.out, HADD.out, HY.out]
           exact RCEnds.same rfl HMA.out
         ·have hrb : (r1 != 0) = true := by simp [hr0]
          have HTK : Hid (s.taking d C m = (s1, d1, r1)) := Lib.hid (by rw [HTK0.out, if_pos hr0])
          go_wp2
          go_ret
          rw [HX.out, HTK.out, HY.out]
          exact RCEnds.same rfl HM7.out
        ·have HMK : Hid (s.making d E = (s, d, 0)) := Lib.hid (by unfold SS.making; rw [HRM.out, if_neg hroom])
         have HTK : Hid (s.taking d C m = s.adding d E m) := Lib.hid (by rw [HTK0.out, HMK.out, if_neg (fun e => e rfl)])
         have HLN1 := Lib.hid hln
         have HD1 := Lib.hid HDD.out
         clear HTK0 HMK
         obtain ⟨ub7, hd7, hn7⟩ := HM7.out.disk
         obtain ⟨q, hq⟩ : ∃ q, (Wal.append s.l d E).2.2 = q := ⟨_, rfl⟩
         have HQ := Lib.hid hq
         have HADD : Hid (s.adding d E m = if q ≠ 0 then ({ s with l := (Wal.append s.l d E).1, dead := decide (q = 2) }, (Wal.append s.l d E).2.1, q) else ({ s with l := (Wal.append s.l d E).1, ps := m, turn := s.turn + 1 }, (Wal.append s.l d E).2.1, 0)) := Lib.hid (by unfold SS.adding; rw [hq])
         have HD7 := Lib.hid hd7
         have HNW7 := Lib.hid hn7
         have HN7 := Lib.hid (fun (wt : World) (hb : Below w7.heap.size w7 wt) => rencode_any (.slice ac C.length kc) C 2 wt (HC7.out.below hb) HFI.out (by decide) (by rw [HEE.out]; omega) (by omega))
         rw [HEE.out] at HN7
         clear hd7 hn7 hq
         have hS0 : w7.drew.cell? ⟨z, 0, none⟩ = some (.pointer (some ⟨lg, 0, none⟩)) := cell_of HM7.out.st rfl
         go_wp2_with fail
         refine wp_region_heldL (S := fun w' => w'.cell? ⟨z, 0, none⟩ = some (.pointer (some ⟨lg, 0, none⟩))) (by kernel_rfl) ?_
         refine planned [0, 1, 2, 3, 4, 5] ?_
         iterate 6 (refine planned_take (v := ?_) rfl (by kernel_rfl) (by kernel_rfl) (by kernel_rfl) (fun _ _ _ h => h) ?_ (by assumption) ?_; rotate_left; (focus (first | (refine Or.inr ⟨by rfl, ?_⟩; with_reducible rfl) | (refine Or.inl ⟨by rfl, ?_⟩; (intro w hSw; (try dsimp only at hSw); go_simp); try with_reducible rfl))); try simp only [Act.put, List.setIfInBounds_toArray, List.set_cons_zero, List.set_cons_succ])
         refine planned_end ?_
         refine wpAnyH_oneL (i := 6) rfl (by kernel_rfl) ?_
         intro K hK
         rw [if_pos (by rfl)]
         go_simp
         go_at_call 162
         refine (HN7.out _ (Below.refl _ _).drew).mono ?_
         rintro e w8 ⟨rfl, b8⟩
         have B8 := Lib.hid (bthen ((Below.refl _ w7).drew) b8)
         have HM8 := Lib.hid (HM7.out.below B8.out)
         have HP8 := Lib.hid (HP7.out.below B8.out)
         have hS1 := cell_later b8 hS0
         clear b8
         refine hK _ _ hS1 ?_
         clear hK K
         try simp only [Act.put, List.setIfInBounds_toArray, List.set_cons_zero, List.set_cons_succ]
         refine wpAnyH_oneL (i := 7) rfl (by kernel_rfl) ?_
         intro K hK
         rw [if_pos (by rfl)]
         go_simp
         go_at_call 165
         refine (rappendL_any lg y w8 s.l d ub7 E HM8.out.log (HD7.out.below B8.out) (by omega) HLN1.out).mono ?_
         rw [HQ.out]
         rintro e w9 ⟨rfl, hw9⟩
         have HW9 := Lib.hid hw9
         have HZ9 : Hid (w9.heap[z]? = some (rstoreBlock lg v s)) := Lib.hid ((hw9.touch.block z (heap_lt HM8.out.st) (fun e => by rcases e with e | e; exact HFAR.out.2.2.2.1 e; exact HFAR.out.2.2.2.2 e)).trans HM8.out.st)
         have hS2 : w9.cell? ⟨z, 0, none⟩ = some (.pointer (some ⟨lg, 0, none⟩)) := cell_of HZ9.out rfl
         clear hw9
         refine hK _ _ hS2 ?_
         clear hK K
         try simp only [Act.put, List.setIfInBounds_toArray, List.set_cons_zero, List.set_cons_succ]
         refine wpAnyH_oneL (i := 8) rfl (by kernel_rfl) ?_
         intro K hK
         rw [if_pos (by rfl)]
         go_simp
         go_at_call 128
         refine (rtold_any z lg v s q w9 HZ9.out).mono ?_
         rintro e wa ⟨rfl, ha, ta⟩
         have HE := Lib.hid (RSWorked.told B8.out HW9.out ha ta HFAR.out.2.2.2 HD1.out HZ9.out)
         have hSa : wa.cell? ⟨z, 0, none⟩ = some (.pointer (some ⟨lg, 0, none⟩)) := cell_of ha rfl
         clear ha ta
         refine hK _ _ hSa ?_
         clear hK K
         try simp only [Act.put, List.setIfInBounds_toArray, List.set_cons_zero, List.set_cons_succ]
         refine wpAnyH_takeL (i := 9) (v := ?_) rfl (by kernel_rfl) (by kernel_rfl) (by kernel_rfl) (fun _ _ _ h => h) ?_ (by assumption) ?_; rotate_left; focus (first | (refine Or.inr ⟨by rfl, ?_⟩; with_reducible rfl) | (refine Or.inl ⟨by rfl, ?_⟩; (intro w hSw; (try dsimp only at hSw); go_simp); try with_reducible rfl))
         try simp only [Act.put, List.setIfInBounds_toArray, List.set_cons_zero, List.set_cons_succ]
         refine wpAnyH_done (by kernel_rfl) ?_ _
         have HMA := Lib.hid (HM7.out.worked HSEP.out HD7.out HNW7.out HE.out rfl)
         have HPA : Hid (PairsAt wa (.slice av nv kv) m) := Lib.hid (HP7.out.touch HE.out.touch (fun g hg e => by
          obtain ⟨a, b, c, _⟩ := HSV.out g hg
          rcases e with (e | e) | e
          ·exact c e
          ·exact b e
          ·exact a e))
         clear HE HW9 HZ9 HM8 HP8 B8 hSa hS0 hS1 hS2 HN7
         by_cases hq0 : q = 0
         ·subst hq0
          rw [if_neg (fun e => e rfl)] at HADD
          have u1 : wa.cell? ⟨z, 1, none⟩ = some v := cell_of HMA.out.st rfl
          have u2 : wa.cell? ⟨z, 2, none⟩ = some (.int .i64 s.turn) := cell_of HMA.out.st rfl
          have uf := free_of HMA.out.st
          have uf1 := uf 1
          have uf2 := uf 2
          clear uf
          go_wp2
          go_ret
          rw [HX.out, HTK.out, HADD.out, HY.out]
          refine ⟨rfl, _, HVV.out, ?_⟩
          have hst := HMA.out.stored HPA.out (fun g hg => (HSV.out g hg).1)
          have hd0 : decide ((0 : Int) = 2) = s.dead := by rw [HD1.out]; rfl
          rw [hd0] at hst
          exact hst
         ·have hqb : (q != 0) = true := by simp [hq0]
          rw [if_pos hq0] at HADD
          go_wp2
          go_ret
          rw [HX.out, HTK.out, HADD.out, HY.out]
          exact RCEnds.same rfl HMA.out
   ·have htb : ((s.turn : Int) != (t.turn : Int)) = true := by simp; omega
    rw [if_pos htu] at HX
    go_wp2_with fail
    go_quiet (fail)
    rename_i nq
    have BQ := Lib.hid (below_drewN (Below.refl w2.heap.size w2) nq)
    go_wp2
    go_ret
    rw [HX.out, HY.out]
    exact RCEnds.same rfl (HM2.out.below BQ.out)
end Go.Proofs.YtpjpknndfhablaaGreat

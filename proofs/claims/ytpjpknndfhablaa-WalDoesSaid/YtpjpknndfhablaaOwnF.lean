/- A row of the call's own of which some cell behind its end may be frozen (what a conversion []byte(s) lays): read and appended to cell by cell. -/
import Derived.Test.YtpjpknndfhablaaOwn
import Derived.ArgAppend
import Derived.Deep.Upon
import Derived.Deep.MidRow
import Derived.Laws.BytesArg
import Derived.Laws.IdiomStrings
namespace Go.Proofs.Ytpjpknndfhablaa
open Go.RowKit

def OwnF (w : World) (base size : Nat) (v : Value) (n : Nat) (xs : List Value) : Prop :=
  xs.length = n * size ∧ ((v = .slice none 0 0 ∧ n = 0) ∨ ∃ g cap, v = .slice (some ⟨g, 0, none⟩) n cap ∧ base ≤ g ∧ g < w.heap.size ∧ n ≤ cap ∧ cap ≤ maxLen ∧
    (∀ j, j < cap * size → (w.cell? ⟨g, j, none⟩).isSome = true ∧ w.frozen? ⟨g, j, none⟩ = false) ∧ ∀ j u, xs[j]? = some u → w.cell? ⟨g, j, none⟩ = some u)

theorem OwnF.of_owns {w : World} {base e size : Nat} {v : Value} {n : Nat} {xs : List Value} (h : w.ownsRow base e size v n xs) : OwnF w base size v n xs := by
  refine ⟨h.1, ?_⟩
  rcases h.2 with h0 | ⟨g, cap, cur, rfl, hb, hg, hn, hc, hs, ht⟩
  · exact .inl h0
  · refine .inr ⟨g, cap, rfl, hb, heap_lt hg, hn, hc, fun j hj => ⟨?_, free_of hg j⟩, fun j u hu => ?_⟩
    · rw [cell_of (i := j) hg (v := cur[j]'(by omega)) (by simp)]; rfl
    · have := h.cells (g := g) rfl j u hu
      rwa [addr_add, Nat.zero_add] at this
theorem OwnF.lt {w : World} {base size : Nat} {v : Value} {n : Nat} {xs : List Value} (h : OwnF w base size v n xs) : ∀ k, v.ownBlock = some k → base ≤ k ∧ k < w.heap.size := by
  intro k hk
  rcases h.2 with ⟨rfl, _⟩ | ⟨g, cap, rfl, hb, hg, _⟩
  · simp [Value.ownBlock] at hk
  · simp [Value.ownBlock] at hk; subst hk; exact ⟨hb, hg⟩
theorem OwnF.touch {S : Nat → Prop} {w w' : World} {base size : Nat} {v : Value} {n : Nat} {xs : List Value} (h : OwnF w base size v n xs) (ht : Touch S w w') (hS : ∀ k, v.ownBlock = some k → ¬ S k) : OwnF w' base size v n xs := by
  refine ⟨h.1, ?_⟩
  rcases h.2 with h0 | ⟨g, cap, rfl, hb, hg, hn, hc, hcell, hx⟩
  · exact .inl h0
  · have hk := ht.block g hg (hS g rfl)
    refine .inr ⟨g, cap, rfl, hb, Nat.lt_of_lt_of_le hg ht.size, hn, hc, fun j hj => ?_, fun j u hu => ?_⟩
    · rw [World.cell?_of_block (a := ⟨g, j, none⟩) hk, World.frozen?_of_block (a := ⟨g, j, none⟩) hk]; exact hcell j hj
    · rw [World.cell?_of_block (a := ⟨g, j, none⟩) hk]; exact hx j u hu
theorem OwnF.slice {w : World} {base size : Nat} {v : Value} {n : Nat} {xs : List Value} (h : OwnF w base size v n xs) : ∃ ao cap, v = .slice ao n cap ∧ n ≤ cap ∧ cap ≤ 9223372036854775807 := by
  rcases h.2 with ⟨rfl, rfl⟩ | ⟨g, cap, rfl, _, _, hn, hc, _⟩
  · exact ⟨none, 0, rfl, Nat.le_refl _, by omega⟩
  · exact ⟨_, cap, rfl, hn, by unfold maxLen at hc; omega⟩

section
variable {P : Program} (w : World)
theorem grown_setCells (g : Nat) : ∀ (vs : List Value) (o : Nat) (w : World), w.grownBy (w.setCells g o vs) (some g)
  | [], o, w => ⟨rfl, rfl, rfl, Nat.le_refl _, fun _ _ _ => rfl⟩
  | v :: vs, o, w => by
    have h := grown_setCells g vs (o + 1) (w.setCell ⟨g, o, none⟩ v)
    have hs := h.size
    rw [World.size_setCell] at hs
    exact ⟨h.os, h.tape, h.output, hs, fun k hk hne => (h.block k (by rw [World.size_setCell]; exact hk) hne).trans (heap_set_ne v (fun e => hne (by rw [e])))⟩
theorem size_setCells (g o : Nat) (vs : List Value) : w.heap.size ≤ (w.setCells g o vs).heap.size := (grown_setCells g vs o w).size

theorem run_append_ownF (base : Nat) (t ty e : TypeId) (i : TypeInfo) (z : Value) (size bytes : Nat) (ht : P.underlying t = some (.slice e)) (hi : P.info? e = some i) (hz : i.zero = some z)
    (hsize : i.size = size) (hby : i.bytes = bytes) (hzs : z.cells.size = size) (hsz : 0 < size)
    (v : Value) (n : Nat) (xs : List Value) (hown : OwnF w base size v n xs)
    (a : Addr) (m c : Nat) (news : List Value) (hl : news.length = m * size) (hnews : ∀ j u, news[j]? = some u → w.cell? (a.add j) = some u) (h1 : ∀ u ∈ news, u.oneCell' = true)
    (_hm : 0 < m) (h63 : n + m ≤ maxLen) (hbytes : (n + m) * bytes ≤ 140737488355328) (hbase : base ≤ w.heap.size) :
    ∃ v' w', (Builtin.append_ #[t, t] ty #[v, .slice (some a) m c]).run P w = .ok v' w' ∧ OwnF w' base size v' (n + m) (xs ++ news) ∧ w.grownBy w' v.ownBlock ∧
      (v'.ownBlock = v.ownBlock ∨ v'.ownBlock = some w.heap.size) := by
  have h63' : ((n + m : Nat) : Int) ≤ 9223372036854775807 := by unfold maxLen at h63; omega
  rcases hown.2 with ⟨rfl, rfl⟩ | ⟨g, cap, rfl, hbg, hg, hnc, hcm, hcell, hx⟩
  · have hx : xs = [] := List.eq_nil_of_length_eq_zero (by simpa using hown.1)
    subst hx
    obtain ⟨v', w', hr, ho, hgr, hb⟩ := run_append_own2 (P := P) w base t ty e i z size bytes ht hi hz hsize hby hzs hsz (.slice none 0 0) 0 [] (World.ownsRow_nil _ _ _ _) a m c news hl hnews h1 h63 hbytes hbase
    exact ⟨v', w', hr, OwnF.of_owns ho, hgr, hb⟩
  · have hlen : (xs ++ news).length = (n + m) * size := by rw [List.length_append, hown.1, hl, Nat.add_mul]
    by_cases hroom : n + m ≤ cap
    · have hfit : ∀ j, j < news.length → n * size + j < cap * size := fun j hj => by
        have : (n + m) * size ≤ cap * size := Nat.mul_le_mul_right _ hroom
        rw [Nat.add_mul] at this
        omega
      have hr := run_append_room_cells (P := P) w t ty e i ht hi g 0 n cap a m c news (by rw [hsize]; exact hl) hnews h1 hroom
        (fun j hj => by rw [hsize, Nat.zero_add]; exact (hcell _ (hfit j hj)).1) (fun j hj => by rw [hsize, Nat.zero_add]; exact (hcell _ (hfit j hj)).2)
      rw [hsize, Nat.zero_add] at hr
      refine ⟨_, _, hr, ⟨hlen, .inr ⟨g, cap, rfl, hbg, Nat.lt_of_lt_of_le hg (size_setCells w g _ _), hroom, hcm, fun j hj => ⟨?_, ?_⟩, fun j u hu => ?_⟩⟩, grown_setCells g _ _ w, .inl rfl⟩
      · exact World.isSome_setCells g _ _ w _ (hcell j hj).1
      · rw [World.frozen?_setCells]; exact (hcell j hj).2
      · rcases Nat.lt_or_ge j xs.length with h | h
        · rw [World.cell?_setCells_out g _ _ _ _ (fun _ _ => .inl (by rw [← hown.1]; exact h))]
          rw [List.getElem?_append_left h] at hu
          exact hx j u hu
        · rw [List.getElem?_append_right h] at hu
          have hjl : j - xs.length < news.length := (List.getElem?_eq_some_iff.1 hu).1
          have := World.cell?_setCells_in g news (n * size) w (fun k hk => (hcell _ (hfit k hk)).1) (j - xs.length) hjl
          rw [← hown.1, show xs.length + (j - xs.length) = j by omega] at this
          rw [← hown.1, this]
          rw [List.getElem?_eq_getElem hjl] at hu
          exact hu
    · have hr := run_append_grow (P := P) w t ty e i z ht hi hz ⟨g, 0, none⟩ n cap xs (by rw [hsize]; exact hown.1) (fun j u hu => by rw [addr_add, Nat.zero_add]; exact hx j u hu) a m c news (by rw [hsize]; exact hl) hnews (by omega) h63' (growslice_fits (by omega) (by rw [hby]; exact hbytes))
      have hge := grownCap_ge w (n + m) cap e
      have hcm' : grownCap w (n + m) cap e ≤ maxLen := grownCap_le_maxLen w (n + m) cap e h63
      have hnew := heap_new w.drew (.cells (xs.toArray ++ news.toArray ++ Builtin.zeroCells z.cells (grownCap w (n + m) cap e - (n + m))) e)
      have ho : (w.drew.alloc (.cells (xs.toArray ++ news.toArray ++ Builtin.zeroCells z.cells (grownCap w (n + m) cap e - (n + m))) e)).ownsRow base e size (.slice (some ⟨w.heap.size, 0, none⟩) (n + m) (grownCap w (n + m) cap e)) (n + m) (xs ++ news) := by
        refine ⟨hlen, .inr ⟨w.heap.size, _, _, rfl, hbase, hnew, hge, hcm', ?_, ?_⟩⟩
        · simp only [Array.size_append, List.size_toArray, size_zeroCells, hzs, hown.1, hl, ← Nat.add_mul]
          congr 1
          omega
        · simp only [Array.toList_append, List.append_assoc]
          rw [← List.append_assoc, ← hlen]
          exact List.take_left
      exact ⟨_, _, hr, OwnF.of_owns ho, ⟨rfl, rfl, rfl, by simp, fun k hk _ => heap_alloc (w := w.drew) _ hk⟩, .inr rfl⟩

theorem wpList_append_ownF {ops : Array Oper} {rest : List Oper} {o : Oper} {a : Act} {Q : Exit → Act → World → Prop} (hgd : o.guard = none) (s x : Operand) (t : TypeId)
    (ho : o.op = .call { callee := .builtin .append, args := #[s, x], argTypes := #[t, t] })
    (base : Nat) (e : TypeId) (size bytes : Nat) (z : Value) (hinfo : (P.info? e).map (fun i => (i.zero, i.size, i.bytes)) = some (some z, size, bytes)) (ht : P.underlying t = some (.slice e)) (hzs : z.cells.size = size) (hsz : 0 < size)
    (v : Value) (n : Nat) (xs : List Value) (hs : a.eval s = v) (hown : OwnF w base size v n xs)
    (ad : Addr) (m c : Nat) (news : List Value) (hx : a.eval x = .slice (some ad) m c) (hl : news.length = m * size) (hnews : ∀ j u, news[j]? = some u → w.cell? (ad.add j) = some u) (h1 : ∀ u ∈ news, u.oneCell' = true)
    (hm : 0 < m) (h63 : n + m ≤ maxLen) (hbytes : (n + m) * bytes ≤ 140737488355328) (hbase : base ≤ w.heap.size)
    (h : ∀ v' w', OwnF w' base size v' (n + m) (xs ++ news) → w.grownBy w' v.ownBlock → (v'.ownBlock = v.ownBlock ∨ v'.ownBlock = some w.heap.size) → wpList P ops Q rest (a.put o.dst v') w') : wpList P ops Q (o :: rest) a w := by
  refine wpList_plain hgd fun K hK => ?_
  obtain ⟨i, hi, hz, hsize, hby⟩ := info_parts hinfo
  obtain ⟨v', w', hr, h2, h3, h4⟩ := run_append_ownF (P := P) w base t o.type e i z size bytes ht hi hz hsize hby hzs hsz v n xs hown ad m c news hl hnews h1 hm h63 hbytes hbase
  unfold Oper.wp execOp
  simp only [ho, resolve, invoke, builtin, Sem.run_bind, Sem.run_pure, Result.andThen_ok, List.map_toArray, List.map_cons, List.map_nil, hs, hx, hr]
  exact hK _ _ (h v' w' h2 h3 h4)

/-- The bytes of a text, as cells. -/
def bytesOf (l : List UInt8) : List Value := l.map fun x => .int .u8 x.toNat
theorem bytesOf_length (l : List UInt8) : (bytesOf l).length = l.length * 1 := by simp [bytesOf]
theorem bytesOf_append (l m : List UInt8) : bytesOf (l ++ m) = bytesOf l ++ bytesOf m := by simp [bytesOf]
theorem strOfNums_bytes (l : List UInt8) : strOfNums (l.map fun x => (x.toNat : Int)) = ⟨l.toArray⟩ := by
  apply ByteArray.ext
  simp [strOfNums, Function.comp_def]
/-- string(b) of an owned row of bytes. -/
theorem run_string_of_ownF {src e : TypeId} (hs : P.underlying src = some (.slice e)) (he : P.underlying e = some (.int .u8)) {base : Nat} {v : Value} {l : List UInt8} (h : OwnF w base 1 v l.length (bytesOf l)) :
    ∀ dst, P.underlying dst = some .string → (convert src dst v).run P w = .ok (.string ⟨l.toArray⟩) w := by
  intro dst hd
  rcases h.2 with ⟨rfl, h0⟩ | ⟨g, cap, rfl, _, _, _, _, _, hx⟩
  · have : l = [] := List.eq_nil_of_length_eq_zero h0
    subst this
    exact run_convert_bytes_nil w src e hs he 0 0 dst hd
  · rw [← strOfNums_bytes]
    refine run_convert_bytes_arg w src e hs he g 0 l.length cap _ (by simp) (fun i hi => ?_) dst hd
    have := hx i (.int .u8 (l[i].toNat)) (by simp [bytesOf, hi])
    rw [Nat.zero_add, this]; simp [hi]
/-- What []byte(s) lays. -/
theorem ownF_bytes (base : Nat) (e : TypeId) (l : List UInt8) (hb : base ≤ w.heap.size) (hl : l.length ≤ maxLen) :
    OwnF (w.drew.alloc (.cells (bytesRow ⟨l.toArray⟩ (grownCap w l.length 0 e)) e ((bytesRow ⟨l.toArray⟩ (grownCap w l.length 0 e)).size, (bytesRow ⟨l.toArray⟩ (grownCap w l.length 0 e)).size + 1))) base 1 (.slice (some ⟨w.heap.size, 0, none⟩) l.length (grownCap w l.length 0 e)) l.length (bytesOf l) := by
  have hnew := heap_new w.drew (.cells (bytesRow ⟨l.toArray⟩ (grownCap w l.length 0 e)) e ((bytesRow ⟨l.toArray⟩ (grownCap w l.length 0 e)).size, (bytesRow ⟨l.toArray⟩ (grownCap w l.length 0 e)).size + 1))
  have hge := grownCap_ge w l.length 0 e
  have hcm := grownCap_le_maxLen w l.length 0 e hl
  generalize grownCap w l.length 0 e = cap at hnew hge hcm ⊢
  rw [World.size_drew] at hnew
  have hsz : (bytesRow ⟨l.toArray⟩ cap).size = cap := by simp [bytesRow, ByteArray.size]; omega
  rw [hsz] at hnew ⊢
  refine ⟨bytesOf_length l, .inr ⟨w.heap.size, cap, rfl, hb, by simp, hge, hcm, fun j hj => ⟨?_, ?_⟩, fun j u hu => ?_⟩⟩
  · rw [cell_of (w := w.drew.alloc _) (i := j) hnew (v := (bytesRow ⟨l.toArray⟩ cap)[j]'(by omega)) (by simp)]; rfl
  · have hnew' : (w.drew.alloc (.cells (bytesRow ⟨l.toArray⟩ cap) e (cap, cap + 1))).heap[w.heap.size]? = some (.cells (bytesRow ⟨l.toArray⟩ cap) e (cap, cap + 1)) := hnew
    simp only [World.frozen?, hnew']
    simp; omega
  · refine cell_of (w := w.drew.alloc _) hnew ?_
    have hjl : j < l.length := by have := (List.getElem?_eq_some_iff.1 hu).1; simpa [bytesOf] using this
    rw [bytesRow_at ⟨l.toArray⟩ cap j (by simpa using hjl)]
    simp [bytesOf, hjl] at hu ⊢
    exact hu

theorem wp_convert_bytes {o : Oper} {a : Act} {K : Act → World → Prop} {Q : Exit → Act → World → Prop} (src dst e : TypeId) (x : Operand) (ho : o.op = .convert src dst x)
    (hs : P.underlying src = some .string) (hd : P.underlying dst = some (.slice e)) (he : P.underlying e = some (.int .u8)) (l : List UInt8) (hx : a.eval x = .string ⟨l.toArray⟩) (hl : l.length ≤ maxLen)
    (base : Nat) (hb : base ≤ w.heap.size)
    (h : ∀ v' w', OwnF w' base 1 v' l.length (bytesOf l) → Below w.heap.size w w' → v'.ownBlock = some w.heap.size → K (a.put o.dst v') w') : o.wp P a w K Q := by
  have hr := run_bytes_of_string (P := P) w src dst e ⟨l.toArray⟩ hs hd he
  unfold Oper.wp execOp
  simp only [ho, hx, Sem.run_bind, Sem.run_pure, hr, Result.andThen_ok]
  exact h _ _ (ownF_bytes w base e l hb hl) (bthen ((Below.refl _ w).drew) (balloc w.drew _)) rfl

theorem wp_convert_string {o : Oper} {a : Act} {K : Act → World → Prop} {Q : Exit → Act → World → Prop} (src dst e : TypeId) (x : Operand) (ho : o.op = .convert src dst x)
    (hs : P.underlying src = some (.slice e)) (he : P.underlying e = some (.int .u8)) (hd : P.underlying dst = some .string) {base : Nat} {v : Value} {l : List UInt8} (hx : a.eval x = v) (hv : OwnF w base 1 v l.length (bytesOf l))
    (h : K (a.put o.dst (.string ⟨l.toArray⟩)) w) : o.wp P a w K Q := by
  have hr := run_string_of_ownF (P := P) w hs he hv dst hd
  unfold Oper.wp execOp
  simp only [ho, hx, Sem.run_bind, Sem.run_pure, hr, Result.andThen_ok]
  exact h

theorem wpList_convert_string {ops : Array Oper} {rest : List Oper} {o : Oper} {a : Act} {Q : Exit → Act → World → Prop} (hgd : o.guard = none) (src dst e : TypeId) (x : Operand) (ho : o.op = .convert src dst x)
    (hs : P.underlying src = some (.slice e)) (he : P.underlying e = some (.int .u8)) (hd : P.underlying dst = some .string) {base : Nat} {v : Value} {l : List UInt8} (hx : a.eval x = v) (hv : OwnF w base 1 v l.length (bytesOf l))
    (h : wpList P ops Q rest (a.put o.dst (.string ⟨l.toArray⟩)) w) : wpList P ops Q (o :: rest) a w :=
  wpList_plain hgd fun _ hK => wp_convert_string w src dst e x ho hs he hd hx hv (hK _ _ h)
theorem wpList_convert_bytes {ops : Array Oper} {rest : List Oper} {o : Oper} {a : Act} {Q : Exit → Act → World → Prop} (hgd : o.guard = none) (src dst e : TypeId) (x : Operand) (ho : o.op = .convert src dst x)
    (hs : P.underlying src = some .string) (hd : P.underlying dst = some (.slice e)) (he : P.underlying e = some (.int .u8)) (l : List UInt8) (hx : a.eval x = .string ⟨l.toArray⟩) (hl : l.length ≤ maxLen)
    (base : Nat) (hb : base ≤ w.heap.size)
    (h : ∀ v' w', OwnF w' base 1 v' l.length (bytesOf l) → Below w.heap.size w w' → v'.ownBlock = some w.heap.size → wpList P ops Q rest (a.put o.dst v') w') : wpList P ops Q (o :: rest) a w :=
  wpList_plain hgd fun _ hK => wp_convert_bytes w src dst e x ho hs hd he l hx hl base hb (fun v' w' a b c => hK _ _ (h v' w' a b c))
end
end Go.Proofs.Ytpjpknndfhablaa

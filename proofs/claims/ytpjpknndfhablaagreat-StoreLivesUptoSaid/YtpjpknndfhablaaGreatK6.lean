/- Laws of the plain store: changes make of the first pairs the second ones; the bytes of changes are read as those changes. Laws of the plain store: the bytes of changes are read as those changes. The store of chapter 11 as plain Lean: an open store, a transaction, what calls do. No program in sight. Rows of pairs as they lie; the document's Find. The document's Size, Fits, Key. The document's Same over pairs. Rows of pairs are appended to; the document's With, Without. The document's With, Without. The document's Scan. Words and bytes in the walk's spelling. -/
import Derived.BigQuiet
import Derived.Handy
import Derived.Lib.EndianBits
import Derived.Laws.BitsAllLaws
import Derived.RegionTactic
import Derived.BigRegion
import Derived.Test.YtpjpknndfhablaaGreatK4
import Derived.Test.YtpjpknndfhablaaGreatK5
namespace Go.Proofs.YtpjpknndfhablaaGreat
namespace Sto
theorem get_past {k : S} : ∀ (pre r : Pairs), (∀ x ∈ pre, lt x.1 k = true) → get (pre ++ r) k = get r k
  | [], _, _ => rfl
  | p :: pre, r, h => by
    have h1 := h p (by simp)
    rw [List.cons_append, get, if_pos h1]
    exact get_past pre r fun x hx => h x (by simp [hx])
theorem here_past {k : S} (pre r : Pairs) (h : ∀ x ∈ pre, lt x.1 k = true) : here (pre ++ r) k = here r k := by
  unfold here
  rw [get_past pre r h]
theorem put_past {k v : S} : ∀ (pre r : Pairs), (∀ x ∈ pre, lt x.1 k = true) → put (pre ++ r) k v = pre ++ put r k v
  | [], _, _ => rfl
  | p :: pre, r, h => by
    have h1 := h p (by simp)
    rw [List.cons_append, put, if_pos h1, put_past pre r fun x hx => h x (by simp [hx])]
    rfl
theorem del_past {k : S} : ∀ (pre r : Pairs), (∀ x ∈ pre, lt x.1 k = true) → del (pre ++ r) k = pre ++ del r k
  | [], _, _ => rfl
  | p :: pre, r, h => by
    have h1 := h p (by simp)
    rw [List.cons_append, del, if_pos h1, del_past pre r fun x hx => h x (by simp [hx])]
    rfl
theorem steps_changes : ∀ (a b pre : Pairs), Rise a → Rise b → (∀ x ∈ pre, ∀ y ∈ a, lt x.1 y.1 = true) → (∀ x ∈ pre, ∀ y ∈ b, lt x.1 y.1 = true) → steps (pre ++ a) (changes a b) = some (pre ++ b)
  | [], [], pre, _, _, _, _ => by simp [changes, steps]
  | [], q :: b, pre, ha, hb, hpa, hpb => by
    have h1 : ∀ x ∈ pre, lt x.1 q.1 = true := fun x hx => hpb x hx q (by simp)
    have ih := steps_changes [] b (pre ++ [q]) ha (List.Pairwise.of_cons hb) (by simp) (by
      intro x hx y hy
      rcases List.mem_append.1 hx with hx | hx
      · exact hpb x hx y (by simp [hy])
      · simp at hx; subst hx; exact List.rel_of_pairwise_cons hb hy)
    rw [changes, steps, step, if_pos rfl]
    simp only []
    rw [get_past pre [] h1, put_past pre [] h1]
    simpa [get, put] using ih
  | p :: a, [], pre, ha, hb, hpa, hpb => by
    have h1 : ∀ x ∈ pre, lt x.1 p.1 = true := fun x hx => hpa x hx p (by simp)
    have ih := steps_changes a [] pre (List.Pairwise.of_cons ha) hb (fun x hx y hy => hpa x hx y (by simp [hy])) (by simp)
    rw [changes, steps, step, if_neg (by simp)]
    simp only []
    rw [here_past pre _ h1, del_past pre _ h1]
    simpa [here, get, del, lt_irrefl] using ih
  | p :: a, q :: b, pre, ha, hb, hpa, hpb => by
    have hp : ∀ x ∈ pre, lt x.1 p.1 = true := fun x hx => hpa x hx p (by simp)
    have hq : ∀ x ∈ pre, lt x.1 q.1 = true := fun x hx => hpb x hx q (by simp)
    rw [changes]
    by_cases h1 : lt p.1 q.1 = true
    · have ih := steps_changes a (q :: b) pre (List.Pairwise.of_cons ha) hb (fun x hx y hy => hpa x hx y (by simp [hy])) hpb
      rw [if_pos h1, steps, step, if_neg (by simp)]
      simp only []
      rw [here_past pre _ hp, del_past pre _ hp]
      simpa [here, get, del, lt_irrefl] using ih
    rw [if_neg h1]
    by_cases h2 : lt q.1 p.1 = true
    · have ih := steps_changes (p :: a) b (pre ++ [q]) ha (List.Pairwise.of_cons hb) (by
        intro x hx y hy
        rcases List.mem_append.1 hx with hx | hx
        · exact hpa x hx y hy
        · simp at hx; subst hx
          rcases List.mem_cons.1 hy with rfl | hy
          · exact h2
          · exact lt_trans h2 (List.rel_of_pairwise_cons ha hy)) (by
        intro x hx y hy
        rcases List.mem_append.1 hx with hx | hx
        · exact hpb x hx y (by simp [hy])
        · simp at hx; subst hx; exact List.rel_of_pairwise_cons hb hy)
      have hne : p.1 ≠ q.1 := fun e => lt_ne h2 e.symm
      rw [if_pos h2, steps, step, if_pos rfl]
      simp only []
      rw [get_past pre _ hq, put_past pre _ hq]
      simp only [get, put, if_neg h1, if_neg hne]
      simpa using ih
    rw [if_neg h2]
    have he : p.1 = q.1 := by
      rcases lt_total p.1 q.1 with h | h | h
      · exact absurd h h1
      · exact h
      · exact absurd h h2
    have ih := steps_changes a b (pre ++ [q]) (List.Pairwise.of_cons ha) (List.Pairwise.of_cons hb) (by
      intro x hx y hy
      rcases List.mem_append.1 hx with hx | hx
      · exact hpa x hx y (by simp [hy])
      · simp at hx; subst hx; rw [← he]; exact List.rel_of_pairwise_cons ha hy) (by
      intro x hx y hy
      rcases List.mem_append.1 hx with hx | hx
      · exact hpb x hx y (by simp [hy])
      · simp at hx; subst hx; exact List.rel_of_pairwise_cons hb hy)
    by_cases hv : p.2 = q.2
    · rw [if_pos hv]
      have hpq : p = q := Prod.ext he hv
      rw [hpq]
      simpa using ih
    · rw [if_neg hv, steps, step, if_pos rfl]
      simp only []
      rw [get_past pre _ hq, put_past pre _ hq]
      simp only [get, put, he, lt_irrefl, Bool.false_eq_true, if_false, if_true]
      rw [if_neg (by simpa using hv)]
      simpa using ih
termination_by a b => a.length + b.length
theorem steps_changes' {a b : Pairs} (ha : Rise a) (hb : Rise b) : steps a (changes a b) = some b := by
  simpa using steps_changes a b [] ha hb (by simp) (by simp)
theorem mem_changes : ∀ (a b : Pairs) (c : Ch), c ∈ changes a b → (c.put = false ∧ c.value = [] ∧ ∃ p ∈ a, p.1 = c.key) ∨ (c.put = true ∧ (c.key, c.value) ∈ b)
  | [], [], c, h => by simp [changes] at h
  | [], q :: b, c, h => by
    rw [changes] at h
    rcases List.mem_cons.1 h with rfl | h
    · exact .inr (by simp)
    · rcases mem_changes [] b c h with h | ⟨h1, h2⟩
      · exact .inl h
      · exact .inr ⟨h1, by simp [h2]⟩
  | p :: a, [], c, h => by
    rw [changes] at h
    rcases List.mem_cons.1 h with rfl | h
    · exact .inl (by simp)
    · rcases mem_changes a [] c h with ⟨h1, h2, x, hx, he⟩ | h
      · exact .inl ⟨h1, h2, x, by simp [hx], he⟩
      · exact .inr h
  | p :: a, q :: b, c, h => by
    rw [changes] at h
    split at h
    · rcases List.mem_cons.1 h with rfl | h
      · exact .inl (by simp)
      · rcases mem_changes a (q :: b) c h with ⟨h1, h2, x, hx, he⟩ | h
        · exact .inl ⟨h1, h2, x, by simp [hx], he⟩
        · exact .inr h
    · split at h
      · rcases List.mem_cons.1 h with rfl | h
        · exact .inr (by simp)
        · rcases mem_changes (p :: a) b c h with h | ⟨h1, h2⟩
          · exact .inl h
          · exact .inr ⟨h1, by simp [h2]⟩
      · have hm : c = ⟨true, q.1, q.2⟩ ∨ c ∈ changes a b := by
          split at h
          · exact .inr h
          · exact List.mem_cons.1 h
        rcases hm with rfl | h
        · exact .inr (by simp)
        · rcases mem_changes a b c h with ⟨h1, h2, x, hx, he⟩ | ⟨h1, h2⟩
          · exact .inl ⟨h1, h2, x, by simp [hx], he⟩
          · exact .inr ⟨h1, by simp [h2]⟩
termination_by a b => a.length + b.length
def RiseC (l : List Ch) : Prop := l.Pairwise fun c d => lt c.key d.key = true
theorem changes_key {a b : Pairs} {c : Ch} (h : c ∈ changes a b) : (∃ p ∈ a, p.1 = c.key) ∨ (∃ p ∈ b, p.1 = c.key) := by
  rcases mem_changes a b c h with ⟨_, _, h⟩ | ⟨_, h⟩
  · exact .inl h
  · exact .inr ⟨_, h, rfl⟩
theorem changes_rise : ∀ (a b : Pairs), Rise a → Rise b → RiseC (changes a b)
  | [], [], _, _ => by simp [changes, RiseC]
  | [], q :: b, ha, hb => by
    rw [changes]
    refine List.pairwise_cons.2 ⟨fun c hc => ?_, changes_rise [] b ha (List.Pairwise.of_cons hb)⟩
    rcases changes_key hc with ⟨x, hx, e⟩ | ⟨x, hx, e⟩
    · simp at hx
    · rw [← e]; exact List.rel_of_pairwise_cons hb hx
  | p :: a, [], ha, hb => by
    rw [changes]
    refine List.pairwise_cons.2 ⟨fun c hc => ?_, changes_rise a [] (List.Pairwise.of_cons ha) hb⟩
    rcases changes_key hc with ⟨x, hx, e⟩ | ⟨x, hx, e⟩
    · rw [← e]; exact List.rel_of_pairwise_cons ha hx
    · simp at hx
  | p :: a, q :: b, ha, hb => by
    have A : ∀ x ∈ a, lt p.1 x.1 = true := fun x hx => List.rel_of_pairwise_cons ha hx
    have B : ∀ x ∈ b, lt q.1 x.1 = true := fun x hx => List.rel_of_pairwise_cons hb hx
    rw [changes]
    by_cases h1 : lt p.1 q.1 = true
    · rw [if_pos h1]
      refine List.pairwise_cons.2 ⟨fun c hc => ?_, changes_rise a (q :: b) (List.Pairwise.of_cons ha) hb⟩
      rcases changes_key hc with ⟨x, hx, e⟩ | ⟨x, hx, e⟩ <;> rw [← e]
      · exact A x hx
      · rcases List.mem_cons.1 hx with rfl | hx
        · exact h1
        · exact lt_trans h1 (B x hx)
    rw [if_neg h1]
    by_cases h2 : lt q.1 p.1 = true
    · rw [if_pos h2]
      refine List.pairwise_cons.2 ⟨fun c hc => ?_, changes_rise (p :: a) b ha (List.Pairwise.of_cons hb)⟩
      rcases changes_key hc with ⟨x, hx, e⟩ | ⟨x, hx, e⟩ <;> rw [← e]
      · rcases List.mem_cons.1 hx with rfl | hx
        · exact h2
        · exact lt_trans h2 (A x hx)
      · exact B x hx
    rw [if_neg h2]
    have he : p.1 = q.1 := by
      rcases lt_total p.1 q.1 with h | h | h
      · exact absurd h h1
      · exact h
      · exact absurd h h2
    have ih := changes_rise a b (List.Pairwise.of_cons ha) (List.Pairwise.of_cons hb)
    split
    · exact ih
    · refine List.pairwise_cons.2 ⟨fun c hc => ?_, ih⟩
      rcases changes_key hc with ⟨x, hx, e⟩ | ⟨x, hx, e⟩ <;> rw [← e]
      · show lt q.1 x.1 = true
        rw [← he]; exact A x hx
      · exact B x hx
termination_by a b => a.length + b.length
/-! Rising pairs stay rising. -/
theorem mem_put : ∀ {l : Pairs} {k v : S} {x : S × S}, x ∈ put l k v → x = (k, v) ∨ x ∈ l
  | [], k, v, x, h => by simp [put] at h; exact .inl h
  | p :: r, k, v, x, h => by
    unfold put at h
    split at h
    · rcases List.mem_cons.1 h with rfl | h
      · exact .inr (by simp)
      · rcases mem_put h with h | h
        · exact .inl h
        · exact .inr (by simp [h])
    · split at h
      · rcases List.mem_cons.1 h with rfl | h
        · exact .inl rfl
        · exact .inr (by simp [h])
      · rcases List.mem_cons.1 h with rfl | h
        · exact .inl rfl
        · exact .inr h
theorem mem_del : ∀ {l : Pairs} {k : S} {x : S × S}, x ∈ del l k → x ∈ l
  | [], _, _, h => by simp [del] at h
  | p :: r, k, x, h => by
    unfold del at h
    split at h
    · rcases List.mem_cons.1 h with rfl | h
      · simp
      · have := mem_del h; simp [this]
    · split at h
      · simp [h]
      · exact h
theorem put_rise : ∀ {l : Pairs} (k v : S), Rise l → Rise (put l k v)
  | [], _, _, _ => by simp [put, Rise]
  | p :: r, k, v, h => by
    have A : ∀ x ∈ r, lt p.1 x.1 = true := fun x hx => List.rel_of_pairwise_cons h hx
    unfold put
    split
    · rename_i h1
      refine List.pairwise_cons.2 ⟨fun x hx => ?_, put_rise k v (List.Pairwise.of_cons h)⟩
      rcases mem_put hx with rfl | hx
      · exact h1
      · exact A x hx
    · rename_i h1
      split
      · rename_i h2
        refine List.pairwise_cons.2 ⟨fun x hx => ?_, List.Pairwise.of_cons h⟩
        show lt k x.1 = true
        rw [← h2]; exact A x hx
      · rename_i h2
        have h3 : lt k p.1 = true := by
          rcases lt_total p.1 k with h | h | h
          · exact absurd h h1
          · exact absurd h h2
          · exact h
        refine List.pairwise_cons.2 ⟨fun x hx => ?_, h⟩
        rcases List.mem_cons.1 hx with rfl | hx
        · exact h3
        · exact lt_trans h3 (A x hx)
theorem del_rise : ∀ {l : Pairs} (k : S), Rise l → Rise (del l k)
  | [], _, _ => by simp [del, Rise]
  | p :: r, k, h => by
    unfold del
    split
    · exact List.pairwise_cons.2 ⟨fun x hx => List.rel_of_pairwise_cons h (mem_del hx), del_rise k (List.Pairwise.of_cons h)⟩
    · split
      · exact List.Pairwise.of_cons h
      · exact h
theorem step_rise {l m : Pairs} {c : Ch} (h : Rise l) (hs : step l c = some m) : Rise m := by
  unfold step at hs
  split at hs
  · split at hs
    · cases hs
    · cases hs; exact put_rise _ _ h
  · split at hs
    · cases hs; exact del_rise _ h
    · cases hs
theorem steps_rise : ∀ {c : List Ch} {l m : Pairs}, Rise l → steps l c = some m → Rise m
  | [], l, m, h, hs => by simp [steps] at hs; subst hs; exact h
  | c :: r, l, m, h, hs => by
    rw [steps] at hs
    obtain ⟨n, h1, h2⟩ := Option.bind_eq_some_iff.1 hs
    exact steps_rise (step_rise h h1) h2
theorem does_rise {c : List Ch} {l m : Pairs} (h : Rise l) (hs : does l c = some m) : Rise m ∧ fits m = true := by
  obtain ⟨n, h1, h2⟩ := Option.bind_eq_some_iff.1 hs
  split at h2
  · rename_i hf; cases h2; exact ⟨steps_rise h h1, hf⟩
  · cases h2
end Sto
end Go.Proofs.YtpjpknndfhablaaGreat
namespace Go.Proofs.YtpjpknndfhablaaGreat
namespace Sto
structure Fine (c : Ch) : Prop where
  key : keyOk c.key = true
  value : valueOk c.value = true
  bare : c.put = false → c.value = []
theorem keyOk_iff {k : S} : keyOk k = true ↔ 1 ≤ k.length ∧ k.length ≤ 64 := by simp [keyOk]
theorem valueOk_iff {v : S} : valueOk v = true ↔ v.length ≤ 4096 := by simp [valueOk]
theorem one_enc1 (c : Ch) (r : S) (hc : Fine c) : one (enc1 c ++ r) = some (c, r) := by
  obtain ⟨p, k, v⟩ := c
  have hk := (keyOk_iff.1 hc.key).2
  have hv := valueOk_iff.1 hc.value
  have h0 := hc.bare
  simp only at hk hv h0
  have hkn : (UInt8.ofNat k.length).toNat = k.length := by
    rw [UInt8.toNat_ofNat']
    exact Nat.mod_eq_of_lt (by omega)
  cases p with
  | false =>
    have := h0 rfl
    subst this
    simp [enc1, one, hkn]
  | true =>
    have hb : (Sha.big v.length 2).length = 2 := Sha.big_length _ _
    have hbv : Sha.val (Sha.big v.length 2) = v.length := Wal.val_big_of (by omega)
    have e1 : (k ++ (Sha.big v.length 2 ++ v) ++ r) = k ++ (Sha.big v.length 2 ++ (v ++ r)) := by simp
    simp only [enc1, one, if_true, List.cons_append, hkn, e1]
    rw [if_neg (by simp), if_neg (by decide)]
    simp only [List.drop_left, List.take_left]
    rw [List.take_left' hb, List.drop_left' hb, hbv, if_neg (by simp [hb]), if_neg (by simp), List.take_left, List.drop_left]
theorem dec_enc : ∀ (l : List Ch) (last : Option S), (∀ c ∈ l, Fine c) → RiseC l → (∀ c, l.head? = some c → after last c.key = true) → dec l.length (enc l) last = some l
  | [], _, _, _, _ => rfl
  | c :: l, last, hf, hr, ha => by
    have h1 := hf c (by simp)
    have ih := dec_enc l (some c.key) (fun x hx => hf x (by simp [hx])) (List.Pairwise.of_cons hr) (by
      intro x hx
      cases l with
      | nil => cases hx
      | cons y l => simp at hx; subst hx; exact List.rel_of_pairwise_cons hr (by simp))
    show (match one (enc1 c ++ enc l) with
      | none => none
      | some (c, r) => if keyOk c.key && valueOk c.value && after last c.key then (dec l.length r (some c.key)).map (c :: ·) else none) = some (c :: l)
    rw [one_enc1 c _ h1]
    simp only [h1.key, h1.value, ha c rfl, Bool.and_self, if_true, ih, Option.map_some]
theorem decode_encode {l : List Ch} {count most : Nat} (h0 : l ≠ []) (hc : l.length < 256 ^ count) (hm : l.length ≤ most) (hf : ∀ c ∈ l, Fine c) (hr : RiseC l) : decode (encode l count) count most = some l := by
  have hb : (Sha.big l.length count).length = count := Sha.big_length _ _
  have hbv : Sha.val (Sha.big l.length count) = l.length := Wal.val_big_of hc
  have hl : 1 ≤ l.length := by cases l with | nil => exact absurd rfl h0 | cons => simp
  unfold decode encode
  rw [List.take_left' hb, List.drop_left' hb, hbv, if_neg (by simp [hb]), if_neg (by omega)]
  exact dec_enc l none hf hr (fun _ _ => rfl)
/-! Whatever is read is fine. -/
theorem one_bare {s r : S} {c : Ch} (h : one s = some (c, r)) : c.put = false → c.value = [] := by
  unfold one at h
  split at h
  · split at h
    · cases h
    · split at h
      · cases h; intro; rfl
      · split at h
        · split at h
          · cases h
          · split at h
            · cases h
            · cases h; intro h; cases h
        · cases h
  · cases h
theorem dec_fine : ∀ (n : Nat) (s : S) (last : Option S) (l : List Ch), dec n s last = some l → l.length = n ∧ (∀ c ∈ l, Fine c) ∧ RiseC l ∧ (∀ c ∈ l, after last c.key = true)
  | 0, s, last, l, h => by
    unfold dec at h
    split at h
    · cases h; exact ⟨rfl, by simp, List.Pairwise.nil, by simp⟩
    · cases h
  | n + 1, s, last, l, h => by
    rw [dec] at h
    split at h
    · cases h
    · rename_i c r hone
      split at h
      · rename_i hk
        obtain ⟨m, hm, rfl⟩ := Option.map_eq_some_iff.1 h
        obtain ⟨i1, i2, i3, i4⟩ := dec_fine n r (some c.key) m hm
        simp only [Bool.and_eq_true] at hk
        refine ⟨by simp [i1], ?_, List.pairwise_cons.2 ⟨fun d hd => i4 d hd, i3⟩, ?_⟩
        · intro d hd
          rcases List.mem_cons.1 hd with rfl | hd
          · exact ⟨hk.1.1, hk.1.2, one_bare hone⟩
          · exact i2 d hd
        · intro d hd
          rcases List.mem_cons.1 hd with rfl | hd
          · exact hk.2
          · have := i4 d hd
            cases last with
            | none => rfl
            | some j => exact lt_trans hk.2 this
      · cases h
theorem decode_fine {s : S} {count most : Nat} {l : List Ch} (h : decode s count most = some l) : l.length ≤ most ∧ l ≠ [] ∧ (∀ c ∈ l, Fine c) ∧ RiseC l := by
  unfold decode at h
  split at h
  · cases h
  · split at h
    · cases h
    · rename_i hn
      obtain ⟨h1, h2, h3, _⟩ := dec_fine _ _ _ _ h
      refine ⟨by omega, ?_, h2, h3⟩
      rintro rfl
      simp at h1
      omega
/-! Good pairs: rising, each key and each value may be. -/
structure Good (l : Pairs) : Prop where
  rise : Rise l
  ok : ∀ p ∈ l, keyOk p.1 = true ∧ valueOk p.2 = true
theorem Good.nil : Good [] := ⟨List.Pairwise.nil, by simp⟩
theorem Good.put {l : Pairs} (h : Good l) {k v : S} (hk : keyOk k = true) (hv : valueOk v = true) : Good (put l k v) :=
  ⟨put_rise k v h.rise, fun p hp => by
    rcases mem_put hp with rfl | hp
    · exact ⟨hk, hv⟩
    · exact h.ok p hp⟩
theorem Good.del {l : Pairs} (h : Good l) (k : S) : Good (del l k) := ⟨del_rise k h.rise, fun p hp => h.ok p (mem_del hp)⟩
theorem Good.steps : ∀ {c : List Ch} {l m : Pairs}, Good l → (∀ x ∈ c, Fine x) → Sto.steps l c = some m → Good m
  | [], l, m, h, _, hs => by simp [Sto.steps] at hs; subst hs; exact h
  | c :: r, l, m, h, hf, hs => by
    rw [Sto.steps] at hs
    obtain ⟨n, h1, h2⟩ := Option.bind_eq_some_iff.1 hs
    refine Good.steps ?_ (fun x hx => hf x (by simp [hx])) h2
    have hc := hf c (by simp)
    unfold step at h1
    split at h1
    · split at h1
      · cases h1
      · cases h1; exact h.put hc.key hc.value
    · split at h1
      · cases h1; exact h.del _
      · cases h1
theorem Good.does {c : List Ch} {l m : Pairs} (h : Good l) (hf : ∀ x ∈ c, Fine x) (hs : Sto.does l c = some m) : Good m ∧ fits m = true := by
  obtain ⟨n, h1, h2⟩ := Option.bind_eq_some_iff.1 hs
  split at h2
  · rename_i hfit; cases h2; exact ⟨h.steps hf h1, hfit⟩
  · cases h2
theorem changes_fine {a b : Pairs} (ha : Good a) (hb : Good b) : ∀ c ∈ changes a b, Fine c := by
  intro c hc
  rcases mem_changes a b c hc with ⟨h1, h2, p, hp, he⟩ | ⟨h1, h2⟩
  · exact ⟨by rw [← he]; exact (ha.ok p hp).1, by rw [h2]; rfl, fun _ => h2⟩
  · exact ⟨(hb.ok _ h2).1, (hb.ok _ h2).2, fun h => by rw [h1] at h; cases h⟩
/-- A store's image: its pairs as puts. -/
def image (l : Pairs) : S := if l = [] then [] else encode (changes [] l) 4
theorem changes_nil : ∀ (l : Pairs), changes [] l = l.map fun p => ⟨true, p.1, p.2⟩
  | [] => by simp [changes]
  | p :: r => by rw [changes, changes_nil r]; rfl
theorem enc_puts_length : ∀ (l : Pairs), (enc (l.map fun p => ⟨true, p.1, p.2⟩)).length = 4 * l.length + size l
  | [] => rfl
  | p :: r => by
    have ih := enc_puts_length r
    simp only [enc] at ih
    simp [enc, enc1, size, Sha.big_length, ih]
    omega
theorem image_length (l : Pairs) (h : fits l = true) : (image l).length ≤ 270340 := by
  unfold image
  split
  · simp
  · simp only [fits, Bool.and_eq_true, decide_eq_true_eq] at h
    rw [changes_nil, encode, List.length_append, enc_puts_length, Sha.big_length]
    omega
theorem image_read {l : Pairs} (h0 : l ≠ []) (hg : Good l) (hf : fits l = true) : decode (image l) 4 2048 = some (changes [] l) ∧ does [] (changes [] l) = some l ∧ image l ≠ [] := by
  have hl : l.length ≤ 2048 := by
    simp only [fits, Bool.and_eq_true, decide_eq_true_eq] at hf
    exact hf.1
  have hn : (changes [] l).length = l.length := by rw [changes_nil]; simp
  have hne : changes [] l ≠ [] := by
    intro e
    rw [e] at hn
    exact h0 (List.eq_nil_of_length_eq_zero hn.symm)
  refine ⟨?_, ?_, ?_⟩
  · unfold image
    rw [if_neg h0]
    exact decode_encode hne (by rw [hn]; omega) (by omega) (changes_fine Good.nil hg) (changes_rise _ _ List.Pairwise.nil hg.rise)
  · unfold does
    rw [steps_changes' List.Pairwise.nil hg.rise]
    simp [hf]
  · unfold image
    rw [if_neg h0]
    intro e
    have := congrArg List.length e
    simp [encode, Sha.big_length] at this
end Sto
end Go.Proofs.YtpjpknndfhablaaGreat
namespace Go.Proofs.YtpjpknndfhablaaGreat
/-- An open store: its log, its pairs, how many transactions changed it, is it dead? -/
structure SS where
  l : Wal.LS := {}
  ps : Sto.Pairs := []
  turn : Nat := 0
  dead : Bool := false
/-- A transaction: what there was, what it sees. -/
structure TS where
  was : Sto.Pairs := []
  now : Sto.Pairs := []
  turn : Nat := 0
  over : Bool := false
namespace SS
def sync (s : SS) (d : DS) : SS × DS × Int :=
  if s.dead then (s, d, 2) else ({ s with l := (Wal.sync s.l d).1, dead := decide ((Wal.sync s.l d).2.2 = 2) }, (Wal.sync s.l d).2.1, (Wal.sync s.l d).2.2)
def check (s : SS) (d : DS) : SS × DS × Int :=
  if s.dead then (s, d, 2) else
  ({ s with l := (Wal.checkpoint s.l d (Sto.image s.ps)).1, dead := decide ((Wal.checkpoint s.l d (Sto.image s.ps)).2.2 = 2) }, (Wal.checkpoint s.l d (Sto.image s.ps)).2.1, (Wal.checkpoint s.l d (Sto.image s.ps)).2.2)
def begin_ (s : SS) : TS := { was := s.ps, now := s.ps, turn := s.turn, over := false }
/-- Room is made for a record. -/
def making (s : SS) (d : DS) (r : List UInt8) : SS × DS × Int := if Wal.room s.l d < r.length then s.check d else (s, d, 0)
/-- A record is appended; then the pairs are these. -/
def adding (s : SS) (d : DS) (r : List UInt8) (m : Sto.Pairs) : SS × DS × Int :=
  if (Wal.append s.l d r).2.2 ≠ 0 then ({ s with l := (Wal.append s.l d r).1, dead := decide ((Wal.append s.l d r).2.2 = 2) }, (Wal.append s.l d r).2.1, (Wal.append s.l d r).2.2) else
  ({ s with l := (Wal.append s.l d r).1, ps := m, turn := s.turn + 1 }, (Wal.append s.l d r).2.1, 0)
/-- Changes become the store's. -/
def taking (s : SS) (d : DS) (c : List Sto.Ch) (m : Sto.Pairs) : SS × DS × Int :=
  if (s.making d (Sto.encode c 2)).2.2 ≠ 0 then s.making d (Sto.encode c 2) else
  (s.making d (Sto.encode c 2)).1.adding (s.making d (Sto.encode c 2)).2.1 (Sto.encode c 2) m
def commit (s : SS) (t : TS) (d : DS) : SS × DS × Int :=
  if t.over then (s, d, 114) else
  if s.dead then (s, d, 2) else
  if s.turn ≠ t.turn then (s, d, 114) else
  if Sto.changes t.was t.now = [] then (s, d, 0) else
  if 512 < (Sto.changes t.was t.now).length ∨ 65536 < (Sto.encode (Sto.changes t.was t.now) 2).length then (s, d, 112) else
  match Sto.does s.ps (Sto.changes t.was t.now) with
  | none => (s, d, 113)
  | some m => s.taking d (Sto.changes t.was t.now) m
/-- The pairs behind records. -/
def replay : Sto.Pairs → List (List UInt8) → Option Sto.Pairs
  | l, [] => some l
  | l, r :: rs => (Sto.decode r 2 512).bind fun c => (Sto.does l c).bind fun m => replay m rs
def snapPairs (snap : List UInt8) : Option Sto.Pairs :=
  if snap = [] then some [] else (Sto.decode snap 4 2048).bind fun c => if c.all (·.put) then Sto.does [] c else none
def opened (q : Wal.Opened) : Option Sto.Pairs := (snapPairs q.snap).bind fun l => replay l q.rs
def open_ (d : DS) : Option SS × DS × Int :=
  match (Wal.open_ d).1 with
  | none => (none, (Wal.open_ d).2.1, (Wal.open_ d).2.2)
  | some q => match opened q with
    | none => (none, (Wal.open_ d).2.1, 110)
    | some l => (some { l := q.l, ps := l, turn := 0, dead := false }, (Wal.open_ d).2.1, 0)
def new (d : DS) : Option SS × DS × Int :=
  match (Wal.new d).1 with
  | none => (none, (Wal.new d).2.1, (Wal.new d).2.2)
  | some l => (some { l := l, ps := [], turn := 0, dead := false }, (Wal.new d).2.1, 0)
end SS
namespace TS
def put (t : TS) (k v : Sto.S) : TS × Int :=
  if t.over then (t, 114) else if Sto.keyOk k = false then (t, 111) else if Sto.valueOk v = false then (t, 112) else ({ t with now := Sto.put t.now k v }, 0)
def del (t : TS) (k : Sto.S) : TS × Int :=
  if t.over then (t, 114) else if Sto.keyOk k = false then (t, 111) else ({ t with now := Sto.del t.now k }, 0)
def ends (t : TS) : TS := { t with now := [], over := true }
end TS
end Go.Proofs.YtpjpknndfhablaaGreat
namespace Go.Proofs.YtpjpknndfhablaaGreat
open Go.RowKit
def pCells : Sto.Pairs → List Value
  | [] => []
  | p :: r => .string ⟨p.1.toArray⟩ :: .string ⟨p.2.toArray⟩ :: pCells r
theorem pCells_length (l : Sto.Pairs) : (pCells l).length = l.length * 2 := by
  induction l with
  | nil => rfl
  | cons p r ih => simp [pCells, ih, Nat.add_mul]
theorem pCells_append (l m : Sto.Pairs) : pCells (l ++ m) = pCells l ++ pCells m := by
  induction l with
  | nil => rfl
  | cons p r ih => simp [pCells, ih]
theorem pCells_at : ∀ {l : Sto.Pairs} {j : Nat} {p : Sto.S × Sto.S}, l[j]? = some p →
    (pCells l)[j * 2]? = some (.string ⟨p.1.toArray⟩) ∧ (pCells l)[j * 2 + 1]? = some (.string ⟨p.2.toArray⟩)
  | [], _, _, h => by simp at h
  | q :: r, 0, p, h => by simp at h; subst h; simp [pCells]
  | q :: r, j + 1, p, h => by
    have := pCells_at (l := r) (j := j) (by simpa using h)
    simpa [pCells, Nat.add_mul] using this
theorem pCells_one (l : Sto.Pairs) : ∀ v ∈ pCells l, v.oneCell' = true := by
  induction l with
  | nil => simp [pCells]
  | cons p r ih =>
    intro v hv
    simp only [pCells, List.mem_cons] at hv
    rcases hv with rfl | rfl | hv
    · rfl
    · rfl
    · exact ih v hv
/-- A value is a slice that holds these pairs. -/
def PairsAt (w : World) (v : Value) (l : Sto.Pairs) : Prop := OwnF w 0 2 v l.length (pCells l)
theorem PairsAt.touch {S : Nat → Prop} {w w' : World} {v : Value} {l : Sto.Pairs} (h : PairsAt w v l) (ht : Touch S w w') (hS : ∀ k, v.ownBlock = some k → ¬ S k) : PairsAt w' v l := OwnF.touch h ht hS
theorem PairsAt.below {w w' : World} {v : Value} {l : Sto.Pairs} (h : PairsAt w v l) (hb : Below w.heap.size w w') : PairsAt w' v l :=
  h.touch (Touch.of_below (S := fun _ => False) hb) (fun _ _ h => h)
theorem PairsAt.read {w : World} {v : Value} {l : Sto.Pairs} (h : PairsAt w v l) : ∃ ao cap, v = .slice ao l.length cap ∧ l.length ≤ cap ∧ cap ≤ 9223372036854775807 ∧
    ∀ j p, l[j]? = some p → ∃ g, ao = some ⟨g, 0, none⟩ ∧ g < w.heap.size ∧ w.cell? ⟨g, j * 2, none⟩ = some (.string ⟨p.1.toArray⟩) ∧ w.cell? ⟨g, j * 2 + 1, none⟩ = some (.string ⟨p.2.toArray⟩) := by
  rcases h.2 with ⟨rfl, h0⟩ | ⟨g, cap, rfl, _, hg, hn, hc, _, hx⟩
  · refine ⟨none, 0, by rw [h0], by omega, by omega, fun j p hj => ?_⟩
    have := (List.getElem?_eq_some_iff.1 hj).1
    omega
  · refine ⟨_, cap, rfl, hn, by unfold maxLen at hc; omega, fun j p hj => ⟨g, rfl, hg, ?_, ?_⟩⟩
    · exact hx _ _ (pCells_at hj).1
    · exact hx _ _ (pCells_at hj).2
theorem less_at (a b : Sto.S) : Op.bytesLess (⟨a.toArray⟩ : ByteArray).toList (⟨b.toArray⟩ : ByteArray).toList = Sto.lt a b := by
  rw [ByteArray.toList_eq, ByteArray.toList_eq]
theorem place_take {l : Sto.Pairs} {k : Sto.S} {j : Nat} (hj : ∀ i p, i < j → l[i]? = some p → Sto.lt p.1 k = true) (hl : j ≤ l.length) : j ≤ Sto.place l k := by
  rcases Nat.lt_or_ge (Sto.place l k) j with h | h
  · obtain ⟨p, hp⟩ : ∃ p, l[Sto.place l k]? = some p := ⟨_, List.getElem?_eq_getElem (by omega)⟩
    have h1 := hj _ p h hp
    have h2 := Sto.place_at l k p hp
    rw [h1] at h2; cases h2
  · exact h
set_option maxHeartbeats 2000000 in
theorem rfind_any (v : Value) (l : Sto.Pairs) (k : Sto.S) (w : World) (h : PairsAt w v l) :
    Calls Tryz.prog 108 #[v, .string ⟨k.toArray⟩] w fun e w' => e = .returned (.tuple #[.int .i64 (Sto.place l k), .bool (Sto.here l k)]) ∧ Below w.heap.size w w' := by
  obtain ⟨ao, cap, rfl, hn, hcap, hcell⟩ := h.read
  have HC := Lib.hid hcell
  clear hcell h
  go_enter Tryz.func108, Tryz.ntmps108
  go_wp2
  go_loop [6] (fun i => ∃ (j : Nat), i = .int .i64 j ∧ j ≤ Sto.place l k) (fun i => l.length - (intOf i).toNat)
  case atStart => exact ⟨0, rfl, by omega⟩
  case round =>
    obtain ⟨j, rfl, hj⟩ := hrel
    have hpl := Sto.place_le l k
    by_cases hlt : j < l.length
    · obtain ⟨p, hs⟩ : ∃ p, l[j]? = some p := ⟨_, List.getElem?_eq_getElem hlt⟩
      obtain ⟨g, rfl, hg, ca, cb⟩ := HC.out j p hs
      have HS := Lib.hid hs
      cases hpk : Sto.lt p.1 k with
      | true =>
        have hle : Op.bytesLess p.1 k = true := hpk
        have hj1 : Hid (j + 1 ≤ Sto.place l k) := Lib.hid (by
          rcases Nat.lt_or_ge j (Sto.place l k) with h | h
          · exact h
          · have e : j = Sto.place l k := by omega
            have := Sto.place_at l k p (by rw [← e]; exact HS.out)
            rw [hpk] at this; cases this)
        clear hs hpk
        go_wp2
        go_round
        all_goals first
          | (simp [intOf]; omega)
          | exact ⟨j + 1, by go_num, hj1.out⟩
      | false =>
        have hle : Op.bytesLess p.1 k = false := hpk
        have e : j = Sto.place l k := by
          rcases Nat.lt_or_ge j (Sto.place l k) with h | h
          · have := Sto.place_before l k j p h HS.out
            rw [hpk] at this; cases this
          · omega
        have hh : Sto.here l k = decide (p.1 = k) := by
          rw [Sto.here_place, ← e, HS.out]
        have HH := Lib.hid hh
        have HE := Lib.hid e
        clear hs hpk hh e hpl hj
        by_cases hk : p.1 = k
        · rw [decide_eq_true hk] at HH
          rw [hk] at ca hle
          go_wp2
          go_quiet (fail)
          go_wp2
          go_ret2
          exact ⟨by rw [← HE.out, HH.out]; rfl, below_drewN (Below.refl _ _) _⟩
        · rw [decide_eq_false hk] at HH
          have hne : (p.1 == k) = false := beq_eq_false_iff_ne.2 hk
          go_wp2
          go_quiet (fail)
          go_wp2
          go_ret2
          exact ⟨by rw [← HE.out, HH.out]; rfl, below_drewN (Below.refl _ _) _⟩
    · have e : j = Sto.place l k := by omega
      have HE := Lib.hid e
      have hh : Sto.here l k = false := by
        rw [Sto.here_place, List.getElem?_eq_none (by omega)]
      have HH := Lib.hid hh
      clear hh e hpl hj
      go_wp2
      go_quiet (fail)
      go_wp2
      go_ret2
      exact ⟨by rw [← HE.out, HH.out]; rfl, below_drewN (Below.refl _ _) _⟩
end Go.Proofs.YtpjpknndfhablaaGreat
namespace Go.Proofs.YtpjpknndfhablaaGreat
open Go.RowKit
namespace Sto
theorem size_append : ∀ l m : Pairs, size (l ++ m) = size l + size m
  | [], m => by simp [size]
  | p :: r, m => by simp [size, size_append r m]; omega
theorem size_take_succ {l : Pairs} {j : Nat} {p : S × S} (h : l[j]? = some p) : size (l.take (j + 1)) = size (l.take j) + (p.1.length + p.2.length) := by
  rw [List.take_add_one, h, size_append]
  simp [size]
theorem size_take_le (l : Pairs) (j : Nat) : size (l.take j) ≤ size l := by
  have := size_append (l.take j) (l.drop j)
  rw [List.take_append_drop] at this
  omega
theorem size_ok {l : Pairs} (h : ∀ p ∈ l, keyOk p.1 = true ∧ valueOk p.2 = true) : size l ≤ 4160 * l.length := by
  induction l with
  | nil => simp [size]
  | cons p r ih =>
    have h1 := h p (by simp)
    simp [keyOk, valueOk] at h1
    have := ih fun x hx => h x (by simp [hx])
    simp [size]
    omega
end Sto
set_option maxHeartbeats 2000000 in
theorem rsize11_any (v : Value) (l : Sto.Pairs) (w : World) (h : PairsAt w v l) (hb : Sto.size l ≤ 4611686018427387904) :
    Calls Tryz.prog 83 #[v] w fun e w' => e = .returned (.int .i64 (Sto.size l)) ∧ Below w.heap.size w w' := by
  obtain ⟨ao, cap, rfl, hn, hcap, hcell⟩ := h.read
  have HC : Hid (∀ w' : World, Below w.heap.size w w' → ∀ (j : Nat) p, l[j]? = some p → ∃ g, ao = some ⟨g, 0, none⟩ ∧ g < w.heap.size ∧ w'.cell? ⟨g, j * 2, none⟩ = some (.string ⟨p.1.toArray⟩) ∧ w'.cell? ⟨g, j * 2 + 1, none⟩ = some (.string ⟨p.2.toArray⟩)) := Lib.hid (fun w' hbl j p hj => by
    obtain ⟨g, h1, h2, h3, h4⟩ := hcell j p hj
    exact ⟨g, h1, h2, cell_later hbl h3, cell_later hbl h4⟩)
  clear hcell h
  go_enter Tryz.func83, Tryz.ntmps83
  go_wp2
  go_loopw [3, 4] (fun n i w' => ∃ (j m : Nat), n = .int .i64 m ∧ i = .int .i64 j ∧ j ≤ l.length ∧ m = Sto.size (l.take j) ∧ Below w.heap.size w w') (fun _ i _ => l.length - (intOf i).toNat)
  case atStart => exact ⟨0, 0, rfl, rfl, by omega, by simp [Sto.size], Below.refl _ _⟩
  case round =>
    obtain ⟨j, m, rfl, rfl, hj, hm, hbl⟩ := hrel
    have HM := Lib.hid hm
    have HB := Lib.hid hbl
    by_cases hlt : j < l.length
    · obtain ⟨p, hs⟩ : ∃ p, l[j]? = some p := ⟨_, List.getElem?_eq_getElem hlt⟩
      obtain ⟨g, rfl, hg, ca, cb⟩ := HC.out _ hbl j p hs
      have hsz := Sto.size_take_succ hs
      have hle := Sto.size_take_le l (j + 1)
      have HZ : Hid (Sto.size (l.take (j + 1)) = m + (p.1.length + p.2.length)) := Lib.hid (by rw [hsz, ← HM.out])
      have hle2 : m + (p.1.length + p.2.length) ≤ 4611686018427387904 := by rw [← HZ.out]; omega
      clear hsz hle hm hs
      have hl1 : p.1.length ≤ 4611686018427387904 := by omega
      have hl2 : p.2.length ≤ 4611686018427387904 := by omega
      go_wp2
      go_quiet (fail)
      go_wp2
      go_round
      all_goals first
        | (simp [intOf]; omega)
        | exact ⟨j + 1, _, by go_num, by go_num, by omega, HZ.out.symm, below_drewN HB.out _⟩
        | (trace_state; fail)
    · obtain rfl : j = l.length := by omega
      have HX : Hid (m = Sto.size l) := Lib.hid (by rw [hm, List.take_length])
      clear hm hbl
      go_wp2
      go_ret
      exact ⟨ret_int (by rw [HX.out]), HB.out⟩
set_option maxHeartbeats 2000000 in
theorem rkey_any (k : Sto.S) (w : World) : Calls Tryz.prog 107 #[.string ⟨k.toArray⟩] w fun e w' => e = .returned (.bool (Sto.keyOk k)) ∧ w = w' := by
  by_cases h : k.length < 1
  · have HX : Hid (Sto.keyOk k = false) := Lib.hid (by unfold Sto.keyOk; rw [decide_eq_false (by omega), Bool.false_and])
    go_enter Tryz.func107, Tryz.ntmps107
    go_wp2
    go_ret
    exact ⟨by rw [HX.out]; rfl, rfl⟩
  by_cases g : k.length ≤ 64
  · have HX : Hid (Sto.keyOk k = true) := Lib.hid (by unfold Sto.keyOk; rw [decide_eq_true (by omega), decide_eq_true g, Bool.true_and])
    go_enter Tryz.func107, Tryz.ntmps107
    go_wp2
    go_ret
    exact ⟨by rw [HX.out, ← (decide_eq_true (by omega) : decide ((k.length : Int) ≤ 64) = true)]; rfl, rfl⟩
  · have HX : Hid (Sto.keyOk k = false) := Lib.hid (by unfold Sto.keyOk; rw [decide_eq_false g, Bool.and_false])
    go_enter Tryz.func107, Tryz.ntmps107
    go_wp2
    go_ret
    exact ⟨by rw [HX.out, ← (decide_eq_false (by omega) : decide ((k.length : Int) ≤ 64) = false)]; rfl, rfl⟩
set_option maxHeartbeats 2000000 in
theorem rfits_any (v : Value) (l : Sto.Pairs) (w : World) (h : PairsAt w v l) (hb : Sto.size l ≤ 4611686018427387904) :
    Calls Tryz.prog 111 #[v] w fun e w' => e = .returned (.bool (Sto.fits l)) ∧ Below w.heap.size w w' := by
  have hs := rsize11_any v l w h hb
  obtain ⟨ao, cap, rfl, hn, hcap, _⟩ := h.read
  have HS := Lib.hid hs
  clear h hs
  by_cases h1 : l.length ≤ 2048
  · have HX : Hid (Sto.fits l = decide (((Sto.size l : Nat) : Int) ≤ 262144)) := Lib.hid (by
      unfold Sto.fits; rw [decide_eq_true h1, Bool.true_and]
      by_cases h : Sto.size l ≤ 262144
      · rw [decide_eq_true h, decide_eq_true (by omega)]
      · rw [decide_eq_false h, decide_eq_false (by omega)])
    obtain ⟨z, hz⟩ : ∃ z, Sto.size l = z := ⟨_, rfl⟩
    rw [hz] at HS HX hb
    clear hz
    go_enter Tryz.func111, Tryz.ntmps111
    go_wp2_with fail
    refine HS.out.mono ?_
    rintro e w1 ⟨rfl, hb1⟩
    go_wp2
    go_ret
    exact ⟨by rw [HX.out]; rfl, hb1⟩
  · have HX : Hid (Sto.fits l = false) := Lib.hid (by unfold Sto.fits; rw [decide_eq_false h1, Bool.false_and])
    clear HS hb
    go_enter Tryz.func111, Tryz.ntmps111
    go_wp2
    go_ret
    exact ⟨by rw [HX.out]; rfl, Below.refl _ _⟩
set_option maxHeartbeats 2000000 in
theorem rget_any (v : Value) (l : Sto.Pairs) (k : Sto.S) (w : World) (h : PairsAt w v l) :
    Calls Tryz.prog 74 #[v, .string ⟨k.toArray⟩] w fun e w' => e = .returned (.tuple #[.string ⟨((Sto.get l k).getD []).toArray⟩, .bool (Sto.here l k)]) ∧ Below w.heap.size w w' := by
  have hf := rfind_any v l k w h
  obtain ⟨ao, cap, rfl, hn, hcap, hcell⟩ := h.read
  have HF := Lib.hid hf
  have hpl := Sto.place_le l k
  have hgp := Sto.get_place l k
  have hhp := Sto.here_place l k
  obtain ⟨b, hb⟩ : ∃ b, Sto.here l k = b := ⟨_, rfl⟩
  obtain ⟨q, hq⟩ : ∃ q, Sto.place l k = q := ⟨_, rfl⟩
  rw [hb, hq] at HF
  rw [hq] at hgp hhp hpl
  have HB := Lib.hid hb
  cases b with
  | false =>
    have HX : Hid (Sto.get l k = none) := Lib.hid (by
      unfold Sto.here at hb
      cases hg : Sto.get l k with
      | none => rfl
      | some x => rw [hg] at hb; cases hb)
    clear hcell h hf hgp hhp hb hq
    go_enter Tryz.func74, Tryz.ntmps74
    go_wp2_with fail
    refine HF.out.mono ?_
    rintro e w1 ⟨rfl, hb1⟩
    go_wp2
    go_ret2
    exact ⟨by rw [HX.out, HB.out]; rfl, hb1⟩
  | true =>
    obtain ⟨p, hp, hk⟩ : ∃ p, l[q]? = some p ∧ p.1 = k := by
      rw [hb] at hhp
      cases hl : l[q]? with
      | none => rw [hl] at hhp; cases hhp
      | some p => rw [hl] at hhp; exact ⟨p, rfl, by simpa using hhp.symm⟩
    have HX : Hid (Sto.get l k = some p.2) := Lib.hid (by rw [hgp, hp]; simp [hk])
    have hql : q < l.length := (List.getElem?_eq_some_iff.1 hp).1
    obtain ⟨g, rfl, hg, ca, cb⟩ := hcell q p hp
    clear hcell h hf hgp hhp hb hq hp
    go_enter Tryz.func74, Tryz.ntmps74
    go_wp2_with fail
    refine HF.out.mono ?_
    rintro e w1 ⟨rfl, hb1⟩
    have cb1 := cell_later hb1 cb
    go_wp2
    go_ret2
    exact ⟨by rw [HX.out, HB.out]; rfl, hb1⟩
end Go.Proofs.YtpjpknndfhablaaGreat
namespace Go.Proofs.YtpjpknndfhablaaGreat
open Go.RowKit
set_option maxHeartbeats 2000000 in
theorem rsame11_any (v u : Value) (l m : Sto.Pairs) (w : World) (h : PairsAt w v l) (g : PairsAt w u m) :
    Calls Tryz.prog 19 #[v, u] w fun e w' => e = .returned (.bool (decide (l = m))) ∧ Below w.heap.size w w' := by
  obtain ⟨ao, cap, rfl, hn, hcap, hcell⟩ := h.read
  obtain ⟨bo, cap', rfl, hn', hcap', hcell'⟩ := g.read
  have HC : Hid (∀ w' : World, Below w.heap.size w w' → ∀ (j : Nat) p, l[j]? = some p → ∃ g, ao = some ⟨g, 0, none⟩ ∧ g < w.heap.size ∧ w'.cell? ⟨g, j * 2, none⟩ = some (.string ⟨p.1.toArray⟩) ∧ w'.cell? ⟨g, j * 2 + 1, none⟩ = some (.string ⟨p.2.toArray⟩)) := Lib.hid (fun w' hbl j p hj => by
    obtain ⟨g, h1, h2, h3, h4⟩ := hcell j p hj
    exact ⟨g, h1, h2, cell_later hbl h3, cell_later hbl h4⟩)
  have HC' : Hid (∀ w' : World, Below w.heap.size w w' → ∀ (j : Nat) p, m[j]? = some p → ∃ g, bo = some ⟨g, 0, none⟩ ∧ g < w.heap.size ∧ w'.cell? ⟨g, j * 2, none⟩ = some (.string ⟨p.1.toArray⟩) ∧ w'.cell? ⟨g, j * 2 + 1, none⟩ = some (.string ⟨p.2.toArray⟩)) := Lib.hid (fun w' hbl j p hj => by
    obtain ⟨g, h1, h2, h3, h4⟩ := hcell' j p hj
    exact ⟨g, h1, h2, cell_later hbl h3, cell_later hbl h4⟩)
  clear hcell hcell' h g
  by_cases hl : l.length = m.length
  · rw [hl] at hn
    have HL := Lib.hid hl
    rw [hl]
    clear hl
    go_enter Tryz.func19, Tryz.ntmps19
    go_wp2
    go_loopw [5] (fun i w' => ∃ (j : Nat), i = .int .i64 j ∧ j ≤ m.length ∧ l.take j = m.take j ∧ Below w.heap.size w w') (fun i _ => m.length - (intOf i).toNat)
    case atStart => exact ⟨0, rfl, by omega, by simp, Below.refl _ _⟩
    case round =>
      obtain ⟨j, rfl, hj, ht, hbl⟩ := hrel
      have HT := Lib.hid ht
      have HB := Lib.hid hbl
      by_cases hlt : j < m.length
      · obtain ⟨p, hp⟩ : ∃ p, l[j]? = some p := ⟨_, List.getElem?_eq_getElem (by rw [HL.out]; exact hlt)⟩
        obtain ⟨q, hq⟩ : ∃ q, m[j]? = some q := ⟨_, List.getElem?_eq_getElem hlt⟩
        obtain ⟨g, rfl, hg, ca, cb⟩ := HC.out _ hbl j p hp
        obtain ⟨g', rfl, hg', ca', cb'⟩ := HC'.out _ hbl j q hq
        have HP := Lib.hid hp
        have HQ := Lib.hid hq
        clear hp hq ht hbl
        by_cases he : p = q
        · subst he
          go_wp2
          go_quiet (fail)
          go_wp2
          go_round
          all_goals first
            | (simp [intOf]; omega)
            | exact ⟨j + 1, by go_num, by omega, by rw [List.take_add_one, List.take_add_one, HT.out, HP.out, HQ.out], below_drewN HB.out _⟩
            | (trace_state; fail)
        · have HX : Hid (decide (l = m) = false) := Lib.hid (decide_eq_false (fun e => he (by
            have h1 := HP.out
            rw [e, HQ.out] at h1
            exact (Option.some.inj h1).symm)))
          by_cases hk : p.1 = q.1
          · have hne : (p.2 == q.2) = false := beq_eq_false_iff_ne.2 (fun e => he (Prod.ext hk e))
            rw [hk] at ca
            go_wp2
            go_quiet (fail)
            go_wp2
            go_ret
            exact ⟨by rw [HX.out]; rfl, below_drewN HB.out _⟩
          · have hne : (p.1 == q.1) = false := beq_eq_false_iff_ne.2 hk
            go_wp2
            go_quiet (fail)
            go_wp2
            go_ret
            exact ⟨by rw [HX.out]; rfl, below_drewN HB.out _⟩
      · obtain rfl : j = m.length := by omega
        have HX : Hid (decide (l = m) = true) := Lib.hid (by
          rw [decide_eq_true_eq]
          rw [List.take_length, ← HL.out, List.take_length] at ht
          exact ht)
        clear ht hbl
        go_wp2
        go_ret
        exact ⟨by rw [HX.out]; rfl, HB.out⟩
  · have HX : Hid (decide (l = m) = false) := Lib.hid (decide_eq_false (fun e => hl (by rw [e])))
    go_enter Tryz.func19, Tryz.ntmps19
    go_wp2
    go_ret
    exact ⟨by rw [HX.out]; rfl, Below.refl _ _⟩
end Go.Proofs.YtpjpknndfhablaaGreat
namespace Go.Proofs.YtpjpknndfhablaaGreat
open Go.RowKit
/-- A value is a slice, or a piece of one, of these pairs. -/
def PieceAt (w : World) (u : Value) (m : Sto.Pairs) : Prop := ∃ ao cap, u = .slice ao m.length cap ∧ (m = [] ∨ ∃ ad, ao = some ad ∧ ∀ j x, (pCells m)[j]? = some x → w.cell? (ad.add j) = some x)
section
variable {P : Program} (w : World)
theorem run_append_none (t ty e : TypeId) (i : TypeInfo) (ht : P.underlying t = some (.slice e)) (hi : P.info? e = some i) (ao : Option Addr) (c : Nat) (v : Value) {base size n : Nat} {xs : List Value} (hv : OwnF w base size v n xs) :
    (Builtin.append_ #[t, t] ty #[v, .slice ao 0 c]).run P w = .ok v w := by
  rcases hv.2 with ⟨rfl, _⟩ | ⟨g, cap, rfl, _, _, hn, _⟩
  · cases ao <;> simp [Builtin.append_, run_underlying ht, sizeOf, typeInfo, hi, Builtin.lenOf, Builtin.firstCells, loadCells, loadCellsFrom]
  · cases ao <;> simp [Builtin.append_, run_underlying ht, sizeOf, typeInfo, hi, Builtin.lenOf, Builtin.firstCells, loadCells, loadCellsFrom, storeCells, hn]
end
theorem pairInfo : (Tryz.prog.info? 97).map (fun i => (i.zero, i.size, i.bytes)) = some (some (.agg #[.string ⟨#[]⟩, .string ⟨#[]⟩]), 2, 32) := by kernel_rfl
theorem wpList_append_pairs (w : World) {ops : Array Oper} {rest : List Oper} {o : Oper} {a : Act} {Q : Exit → Act → World → Prop} (hgd : o.guard = none) (s x : Operand)
    (ho : o.op = .call { callee := .builtin .append, args := #[s, x], argTypes := #[42, 42] })
    (base : Nat) (v u : Value) (l m : Sto.Pairs) (hs : a.eval s = v) (hx : a.eval x = u) (hown : OwnF w base 2 v l.length (pCells l)) (hu : PieceAt w u m) (hb : l.length + m.length ≤ 4398046511104) (hbase : base ≤ w.heap.size)
    (h : ∀ v' w', OwnF w' base 2 v' (l ++ m).length (pCells (l ++ m)) → w.grownBy w' v.ownBlock → (v'.ownBlock = v.ownBlock ∨ v'.ownBlock = some w.heap.size) → wpList Tryz.prog ops Q rest (a.put o.dst v') w') : wpList Tryz.prog ops Q (o :: rest) a w := by
  obtain ⟨ao, cap, rfl, hm⟩ := hu
  cases m with
  | nil =>
    refine wpList_plain hgd fun K hK => ?_
    obtain ⟨i, hi, _, _, _⟩ := info_parts pairInfo
    have hr := run_append_none (P := Tryz.prog) w 42 o.type 97 i Tryz.underlying42 hi ao cap v hown
    unfold Oper.wp execOp
    simp only [ho, resolve, invoke, builtin, Sem.run_bind, Sem.run_pure, Result.andThen_ok, List.map_toArray, List.map_cons, List.map_nil, hs, hx, List.length_nil, hr]
    refine hK _ _ (h v w (by rw [List.append_nil]; exact hown) ⟨rfl, rfl, rfl, Nat.le_refl _, fun _ _ _ => rfl⟩ (.inl rfl))
  | cons p r =>
    rcases hm with hm | ⟨ad, rfl, hc⟩
    · cases hm
    · refine wpList_append_ownF w hgd s x 42 ho base 97 2 32 _ pairInfo Tryz.underlying42 rfl (by decide) v l.length (pCells l) hs hown ad (p :: r).length cap (pCells (p :: r)) hx (pCells_length _) hc (pCells_one _) (by simp) (by unfold maxLen; omega) (by omega) hbase ?_
      intro v' w' h1 h2 h3
      exact h v' w' (by rw [List.length_append, pCells_append]; exact h1) h2 h3
end Go.Proofs.YtpjpknndfhablaaGreat
namespace Go.Proofs.YtpjpknndfhablaaGreat
open Go.RowKit
theorem ownF_empty (w : World) (t : TypeId) (base : Nat) (hb : base ≤ w.heap.size) : OwnF (w.alloc (.cells #[] t)) base 2 (.slice (some ⟨w.heap.size, 0, none⟩) 0 0) ([] : Sto.Pairs).length (pCells []) :=
  OwnF.of_owns (w := w.alloc (.cells #[] t)) (e := t) (World.ownsRow_made w #[] 0 hb (by decide) (by simp))
theorem pieceAt_one (w : World) (t : TypeId) (k x : Sto.S) : PieceAt (w.alloc (.cells #[.string ⟨k.toArray⟩, .string ⟨x.toArray⟩] t)) (.slice (some ⟨w.heap.size, 0, none⟩) 1 1) [(k, x)] :=
  ⟨_, 1, rfl, .inr ⟨_, rfl, fun i u hi => by
    rw [addr_add, Nat.zero_add]
    exact cell_of (heap_new w _) (by simpa [pCells] using hi)⟩⟩
theorem pCells_drop : ∀ (l : Sto.Pairs) (q : Nat), pCells (l.drop q) = (pCells l).drop (q * 2)
  | l, 0 => by simp
  | [], q + 1 => by simp [pCells]
  | p :: r, q + 1 => by rw [List.drop_succ_cons, pCells_drop r q, show (q + 1) * 2 = q * 2 + 1 + 1 by omega]; simp [pCells]
theorem pCells_take : ∀ (l : Sto.Pairs) (q : Nat), pCells (l.take q) = (pCells l).take (q * 2)
  | l, 0 => by simp [pCells]
  | [], q + 1 => by simp [pCells]
  | p :: r, q + 1 => by rw [List.take_succ_cons, show (q + 1) * 2 = q * 2 + 1 + 1 by omega]; simp [pCells, pCells_take r q]
theorem PieceAt.take {w : World} {g cap q : Nat} {l : Sto.Pairs} (hx : ∀ j u, (pCells l)[j]? = some u → w.cell? ⟨g, j, none⟩ = some u) (hq : q ≤ l.length) : PieceAt w (.slice (some ⟨g, 0, none⟩) q cap) (l.take q) :=
  ⟨_, cap, by rw [List.length_take, Nat.min_eq_left hq], .inr ⟨_, rfl, fun j u hu => by
    rw [pCells_take] at hu
    rw [addr_add, Nat.zero_add]
    exact hx j u (by
      rcases Nat.lt_or_ge j (q * 2) with h | h
      · rwa [List.getElem?_take_of_lt h] at hu
      · rw [List.getElem?_eq_none (by rw [List.length_take]; omega)] at hu; cases hu)⟩⟩
theorem PieceAt.drop {w : World} {g cap q : Nat} {l : Sto.Pairs} (hn : l.length ≤ cap) (hx : ∀ j u, (pCells l)[j]? = some u → w.cell? ⟨g, j, none⟩ = some u) :
    PieceAt w (.slice (if cap = q then some ⟨g, 0, none⟩ else some ⟨g, q * 2, none⟩) (l.length - q) (cap - q)) (l.drop q) := by
  refine ⟨_, cap - q, by rw [List.length_drop], ?_⟩
  by_cases h : cap = q
  · exact .inl (List.drop_eq_nil_iff.2 (by omega))
  · rw [if_neg h]
    refine .inr ⟨_, rfl, fun j u hu => ?_⟩
    rw [pCells_drop, List.getElem?_drop] at hu
    rw [addr_add]
    exact hx _ u hu
theorem below_grown {base : Nat} {w w' w'' : World} {row : Option Nat} (hb : Below base w w') (hbase : base ≤ w'.heap.size) (hg : w'.grownBy w'' row) (hrow : ∀ k, row = some k → base ≤ k) : Below base w w'' :=
  hb.trans ⟨hg.os, hg.tape, hg.output, hg.size, fun k hk => hg.block k (by omega) (fun e => by have := hrow k e.symm; omega)⟩
theorem OwnF.zero {w : World} {base size : Nat} {v : Value} {n : Nat} {xs : List Value} (h : OwnF w base size v n xs) : OwnF w 0 size v n xs := by
  refine ⟨h.1, ?_⟩
  rcases h.2 with h0 | ⟨g, cap, rfl, _, hg⟩
  · exact .inl h0
  · exact .inr ⟨g, cap, rfl, Nat.zero_le _, hg⟩
set_option maxHeartbeats 4000000 in
set_option maxRecDepth 100000 in
theorem rwith_any (v : Value) (l : Sto.Pairs) (k x : Sto.S) (w : World) (h : PairsAt w v l) (hb : l.length + 1 ≤ 4398046511104) :
    Calls Tryz.prog 109 #[v, .string ⟨k.toArray⟩, .string ⟨x.toArray⟩] w fun e w' => ∃ v', e = .returned v' ∧ PairsAt w' v' (Sto.put l k x) ∧ (∀ g, v'.ownBlock = some g → w.heap.size ≤ g) ∧ Below w.heap.size w w' := by
  have hf := rfind_any v l k w h
  have HF := Lib.hid hf
  have hpl := Sto.place_le l k
  have hhp := Sto.here_place l k
  have hput := Sto.put_place l k x
  obtain ⟨b, hbe⟩ : ∃ b, Sto.here l k = b := ⟨_, rfl⟩
  obtain ⟨q, hq⟩ : ∃ q, Sto.place l k = q := ⟨_, rfl⟩
  rw [hbe, hq] at HF hput
  rw [hq] at hpl
  rw [hq, hbe] at hhp
  have HX := Lib.hid hput
  have hqb : q + (if b = true then 1 else 0) ≤ l.length := by
    cases b with
    | false => simpa using hpl
    | true =>
      rcases Nat.lt_or_ge q l.length with h | h
      · simp; omega
      · rw [List.getElem?_eq_none h] at hhp; cases hhp
  rcases h.2 with ⟨rfl, h0⟩ | ⟨g, cap, rfl, _, hg, hn, hcap, _, hx⟩
  · have : l = [] := List.eq_nil_of_length_eq_zero h0
    subst this
    have hq' : 0 = q := hq
    subst hq'
    have hb' : false = b := hbe
    subst hb'
    clear h h0 hf hput hhp hbe hpl hqb hq hb
    go_enter Tryz.func109, Tryz.ntmps109
    go_wp2_with fail
    refine HF.out.mono ?_
    rintro e w1 ⟨rfl, hb1⟩
    have HB1 := Lib.hid hb1
    clear hb1
    go_wp2_with (first
      | (at_builtin; refine wpList_append_pairs _ rfl (.tmp 29) (.tmp 32) rfl w.heap.size v3 _ [(k, x)] [] rfl rfl HO3.out ⟨_, _, rfl, .inl rfl⟩ (by simp) HB3.out.size ?_; intro v4 w4 ho4 hgr4 _; have HO4 := Lib.hid ho4; have HB4 := Lib.hid (below_grown HB3.out HB3.out.size hgr4 (fun k hk => (HO3.out.lt k hk).1)); clear ho4 hgr4)
      | (at_builtin; refine wpList_append_pairs _ rfl (.tmp 20) (.tmp 24) rfl w.heap.size v2 _ [] [(k, x)] rfl rfl (HO2.out.touch (S := fun _ => False) (.of_below (balloc w2 _)) (fun _ _ h => h)) (pieceAt_one w2 _ k x) (by simp) (bthen HB2.out (balloc _ _)).size ?_; intro v3 w3 ho3 hgr3 _; have HO3 := Lib.hid ho3; have HB3 := Lib.hid (below_grown (bthen HB2.out (balloc _ _)) (bthen HB2.out (balloc _ _)).size hgr3 (fun k hk => (HO2.out.lt k hk).1)); clear ho3 hgr3)
      | (at_builtin; refine wpList_append_pairs _ rfl (.tmp 16) (.tmp 19) rfl w.heap.size _ _ [] [] rfl rfl (ownF_empty _ _ _ HB1.out.size) ⟨_, _, rfl, .inl rfl⟩ (by simp) (bthen HB1.out (balloc _ _)).size ?_; intro v2 w2 ho2 hgr2 _; have HO2 := Lib.hid ho2; have HB2 := Lib.hid (below_grown (bthen HB1.out (balloc _ _)) (bthen HB1.out (balloc _ _)).size hgr2 (fun k hk => ((ownF_empty w1 97 w.heap.size HB1.out.size).lt k hk).1)); clear ho2 hgr2))
    all_goals go_ret
    all_goals exact ⟨v4, rfl, by rw [HX.out]; have := HO4.out.zero; simpa [PairsAt] using this, fun g hg => (HO4.out.lt g hg).1, HB4.out⟩
  · have HC := Lib.hid hx
    unfold maxLen at hcap
    clear hx h hf hput hhp hbe hq
    cases b with
    | false =>
      simp only [Bool.false_eq_true, if_false, Nat.add_zero] at hqb HX
      go_enter Tryz.func109, Tryz.ntmps109
      go_wp2_with fail
      refine HF.out.mono ?_
      rintro e w1 ⟨rfl, hb1⟩
      have HB1 := Lib.hid hb1
      clear hb1
      go_wp2_with (first
        | (at_builtin; refine wpList_append_pairs _ rfl (.tmp 29) (.tmp 32) rfl w.heap.size v3 _ ([] ++ l.take q ++ [(k, x)]) (l.drop q) rfl rfl HO3.out (PieceAt.drop hn (fun j u hj => cell_later HB3.out (HC.out j u hj))) (by simp; omega) HB3.out.size ?_; intro v4 w4 ho4 hgr4 _; have HO4 := Lib.hid ho4; have HB4 := Lib.hid (below_grown HB3.out HB3.out.size hgr4 (fun k hk => (HO3.out.lt k hk).1)); clear ho4 hgr4)
        | (at_builtin; refine wpList_append_pairs _ rfl (.tmp 20) (.tmp 24) rfl w.heap.size v2 _ ([] ++ l.take q) [(k, x)] rfl rfl (HO2.out.touch (S := fun _ => False) (.of_below (balloc w2 _)) (fun _ _ h => h)) (pieceAt_one w2 _ k x) (by simp; omega) (bthen HB2.out (balloc _ _)).size ?_; intro v3 w3 ho3 hgr3 _; have HO3 := Lib.hid ho3; have HB3 := Lib.hid (below_grown (bthen HB2.out (balloc _ _)) (bthen HB2.out (balloc _ _)).size hgr3 (fun k hk => (HO2.out.lt k hk).1)); clear ho3 hgr3)
        | (at_builtin; refine wpList_append_pairs _ rfl (.tmp 16) (.tmp 19) rfl w.heap.size _ _ [] (l.take q) rfl rfl (ownF_empty _ _ _ HB1.out.size) (PieceAt.take (fun j u hj => cell_later (bthen HB1.out (balloc _ _)) (HC.out j u hj)) (by omega)) (by simp; omega) (bthen HB1.out (balloc _ _)).size ?_; intro v2 w2 ho2 hgr2 _; have HO2 := Lib.hid ho2; have HB2 := Lib.hid (below_grown (bthen HB1.out (balloc _ _)) (bthen HB1.out (balloc _ _)).size hgr2 (fun k hk => ((ownF_empty w1 97 w.heap.size HB1.out.size).lt k hk).1)); clear ho2 hgr2))
      all_goals go_ret
      all_goals exact ⟨v4, rfl, by rw [HX.out]; have := HO4.out.zero; simpa [PairsAt] using this, fun g hg => (HO4.out.lt g hg).1, HB4.out⟩
    | true =>
      simp only [if_true] at hqb HX
      go_enter Tryz.func109, Tryz.ntmps109
      go_wp2_with fail
      refine HF.out.mono ?_
      rintro e w1 ⟨rfl, hb1⟩
      have HB1 := Lib.hid hb1
      clear hb1
      go_wp2_with (first
        | (at_builtin; refine wpList_append_pairs _ rfl (.tmp 29) (.tmp 32) rfl w.heap.size v3 _ ([] ++ l.take q ++ [(k, x)]) (l.drop (q + 1)) rfl rfl HO3.out (PieceAt.drop hn (fun j u hj => cell_later HB3.out (HC.out j u hj))) (by simp; omega) HB3.out.size ?_; intro v4 w4 ho4 hgr4 _; have HO4 := Lib.hid ho4; have HB4 := Lib.hid (below_grown HB3.out HB3.out.size hgr4 (fun k hk => (HO3.out.lt k hk).1)); clear ho4 hgr4)
        | (at_builtin; refine wpList_append_pairs _ rfl (.tmp 20) (.tmp 24) rfl w.heap.size v2 _ ([] ++ l.take q) [(k, x)] rfl rfl (HO2.out.touch (S := fun _ => False) (.of_below (balloc w2 _)) (fun _ _ h => h)) (pieceAt_one w2 _ k x) (by simp; omega) (bthen HB2.out (balloc _ _)).size ?_; intro v3 w3 ho3 hgr3 _; have HO3 := Lib.hid ho3; have HB3 := Lib.hid (below_grown (bthen HB2.out (balloc _ _)) (bthen HB2.out (balloc _ _)).size hgr3 (fun k hk => (HO2.out.lt k hk).1)); clear ho3 hgr3)
        | (at_builtin; refine wpList_append_pairs _ rfl (.tmp 16) (.tmp 19) rfl w.heap.size _ _ [] (l.take q) rfl rfl (ownF_empty _ _ _ HB1.out.size) (PieceAt.take (fun j u hj => cell_later (bthen HB1.out (balloc _ _)) (HC.out j u hj)) (by omega)) (by simp; omega) (bthen HB1.out (balloc _ _)).size ?_; intro v2 w2 ho2 hgr2 _; have HO2 := Lib.hid ho2; have HB2 := Lib.hid (below_grown (bthen HB1.out (balloc _ _)) (bthen HB1.out (balloc _ _)).size hgr2 (fun k hk => ((ownF_empty w1 97 w.heap.size HB1.out.size).lt k hk).1)); clear ho2 hgr2))
      all_goals go_ret
      all_goals exact ⟨v4, rfl, by rw [HX.out]; have := HO4.out.zero; simpa [PairsAt] using this, fun g hg => (HO4.out.lt g hg).1, HB4.out⟩
end Go.Proofs.YtpjpknndfhablaaGreat
namespace Go.Proofs.YtpjpknndfhablaaGreat
open Go.RowKit
namespace Sto
def from_ (k : S) (l : Pairs) : Pairs := l.filter fun p => !lt p.1 k
theorem from_take_succ {l : Pairs} {j : Nat} {p : S × S} (k : S) (h : l[j]? = some p) : from_ k (l.take (j + 1)) = from_ k (l.take j) ++ if lt p.1 k then [] else [p] := by
  unfold from_
  rw [List.take_add_one, h, List.filter_append]
  congr 1
  cases hl : lt p.1 k <;> simp [hl]
theorem from_take_le (k : S) (l : Pairs) (j : Nat) : (from_ k (l.take j)).length ≤ j := by
  unfold from_
  have h1 := List.length_filter_le (fun p => !lt p.1 k) (l.take j)
  rw [List.length_take] at h1
  omega
theorem scan_stop {l : Pairs} {k : S} {j n : Nat} (h : (from_ k (l.take j)).length = n) : scan l k n = from_ k (l.take j) := by
  have e : l.filter (fun p => !lt p.1 k) = from_ k (l.take j) ++ from_ k (l.drop j) := by
    unfold from_
    rw [← List.filter_append, List.take_append_drop]
  unfold scan
  rw [e, ← h, List.take_left]
theorem scan_end {l : Pairs} {k : S} {n : Nat} (h : (from_ k l).length ≤ n) : scan l k n = from_ k l := by
  unfold scan
  exact List.take_of_length_le h
end Sto
set_option maxHeartbeats 4000000 in
set_option maxRecDepth 100000 in
theorem rscan_any (v : Value) (l : Sto.Pairs) (k : Sto.S) (most : Int) (w : World) (h : PairsAt w v l) (hb : l.length ≤ 2199023255552) (_hm : most ≤ 9223372036854775807) :
    Calls Tryz.prog 76 #[v, .string ⟨k.toArray⟩, .int .i64 most] w fun e w' => ∃ v', e = .returned v' ∧ PairsAt w' v' (Sto.scan l k most.toNat) ∧ (∀ g, v'.ownBlock = some g → w.heap.size ≤ g) ∧ Below w.heap.size w w' := by
  obtain ⟨ao, cap, rfl, hn, hcap, hcell⟩ := h.read
  have HC : Hid (∀ w' : World, Below w.heap.size w w' → ∀ (j : Nat) p, l[j]? = some p → ∃ g, ao = some ⟨g, 0, none⟩ ∧ g < w.heap.size ∧ w'.cell? ⟨g, j * 2, none⟩ = some (.string ⟨p.1.toArray⟩) ∧ w'.cell? ⟨g, j * 2 + 1, none⟩ = some (.string ⟨p.2.toArray⟩)) := Lib.hid (fun w' hbl j p hj => by
    obtain ⟨g, h1, h2, h3, h4⟩ := hcell j p hj
    exact ⟨g, h1, h2, cell_later hbl h3, cell_later hbl h4⟩)
  clear hcell h
  go_enter Tryz.func76, Tryz.ntmps76
  go_wp2
  go_loopw [7, 8] (fun vo i wr => ∃ (j n : Nat) (ob : Option Addr) (oc : Nat), vo = .slice ob n oc ∧ i = .int .i64 j ∧ j ≤ l.length ∧ n = (Sto.from_ k (l.take j)).length ∧ n ≤ most.toNat ∧ n ≤ oc ∧ oc ≤ 9223372036854775807 ∧
    OwnF wr w.heap.size 2 (.slice ob n oc) n (pCells (Sto.from_ k (l.take j))) ∧ Below w.heap.size w wr) (fun _ i _ => l.length - (intOf i).toNat)
  case atStart => exact ⟨0, 0, _, 0, rfl, rfl, by omega, by simp [Sto.from_], by omega, by omega, by omega, by simpa [Sto.from_] using ownF_empty w 97 w.heap.size (Nat.le_refl _), balloc _ _⟩
  case round =>
    obtain ⟨j, n, ob, oc, rfl, rfl, hj, hnl, hnm, hno, hoc, ho, hbl⟩ := hrel
    have HO := Lib.hid ho
    have HB := Lib.hid hbl
    have HN := Lib.hid hnl
    have hnj : n ≤ j := by rw [hnl]; exact Sto.from_take_le k l j
    by_cases hlt : j < l.length
    · by_cases hmo : (n : Int) < most
      · obtain ⟨p, hs⟩ : ∃ p, l[j]? = some p := ⟨_, List.getElem?_eq_getElem hlt⟩
        obtain ⟨g, rfl, hg, ca, cb⟩ := HC.out _ hbl j p hs
        have hsucc := Sto.from_take_succ k hs
        clear hs ho hbl hnl
        cases hpk : Sto.lt p.1 k with
        | true =>
          have hle : Op.bytesLess p.1 k = true := hpk
          rw [hpk, if_pos rfl, List.append_nil] at hsucc
          have HS := Lib.hid hsucc
          clear hsucc hpk
          go_wp2
          go_round
          all_goals first
            | (simp [intOf]; omega)
            | exact ⟨j + 1, n, _, _, by go_num, by go_num, by omega, by rw [HS.out]; exact HN.out, hnm, hno, hoc, by rw [HS.out]; exact HO.out, HB.out⟩
        | false =>
          have hle : Op.bytesLess p.1 k = false := hpk
          rw [hpk, if_neg (by decide)] at hsucc
          have HS := Lib.hid hsucc
          clear hsucc hpk
          go_wp2_with (at_builtin; go_must (refine wpList_append_pairs _ rfl (.tmp 29) (.tmp 34) rfl w.heap.size (.slice ob n oc) _ (Sto.from_ k (l.take j)) [p] rfl rfl (by rw [← HN.out]; exact HO.out.touch (S := fun _ => False) (.of_below (balloc _ _)) (fun _ _ h => h)) (pieceAt_one _ _ p.1 p.2) (by rw [← HN.out]; simp; omega) (bthen HB.out (balloc _ _)).size ?_; intro v2 w2 ho2 hgr2 _; have HB2 := Lib.hid (below_grown (bthen HB.out (balloc _ _)) (bthen HB.out (balloc _ _)).size hgr2 (fun k hk => (HO.out.lt k hk).1)); obtain ⟨ob2, oc2, rfl, hno2, hoc2⟩ := ho2.slice; have HO2 := Lib.hid ho2; clear ho2 hgr2))
          go_round
          all_goals first
            | (simp [intOf]; omega)
            | exact ⟨j + 1, _, _, _, rfl, by go_num, by omega, by rw [HS.out]; simp, by rw [← HN.out]; omega, by simpa using hno2, hoc2, by rw [HS.out]; simpa using HO2.out, HB2.out⟩
      · have HX : Hid (Sto.scan l k most.toNat = Sto.from_ k (l.take j)) := Lib.hid (Sto.scan_stop (by omega))
        clear ho hbl hnl
        go_wp2
        go_ret
        exact ⟨_, rfl, by rw [HX.out]; have := HO.out.zero; rw [PairsAt, ← HN.out]; exact this, fun g hg => (HO.out.lt g hg).1, HB.out⟩
    · obtain rfl : j = l.length := by omega
      rw [List.take_length] at HO HN hnl
      have HX : Hid (Sto.scan l k most.toNat = Sto.from_ k l) := Lib.hid (Sto.scan_end (by omega))
      clear ho hbl hnl
      go_wp2
      go_ret
      exact ⟨_, rfl, by rw [HX.out]; have := HO.out.zero; rw [PairsAt, ← HN.out]; exact this, fun g hg => (HO.out.lt g hg).1, HB.out⟩
end Go.Proofs.YtpjpknndfhablaaGreat
namespace Go.Proofs.YtpjpknndfhablaaGreat
open Go.RowKit

section
variable (x y : U32)
theorem x_ofInt : BitVec.ofInt 32 (x.toNat : Int) = x := by simp
theorem x_wrap (n : Nat) : IntKind.u32.wrap (n : Int) = ((BitVec.ofNat 32 n).toNat : Int) := by rw [IntKind.wrap_u32, BitVec.toNat_ofNat]; omega
theorem x_bits (f : U32 → U32 → U32) (z : U32) (h : z = f x y) : IntKind.u32.wrap ((f (BitVec.ofInt 32 (x.toNat : Int)) (BitVec.ofInt 32 (y.toNat : Int))).toNat : Int) = (z.toNat : Int) := by
  rw [x_ofInt, x_ofInt, x_wrap, h]; simp
theorem x_xor : bits .xor .u32 (x.toNat : Int) (y.toNat : Int) = ((x ^^^ y).toNat : Int) := x_bits x y (· ^^^ ·) _ rfl
theorem x_and : bits .and .u32 (x.toNat : Int) (y.toNat : Int) = ((x &&& y).toNat : Int) := x_bits x y (· &&& ·) _ rfl
theorem x_or : bits .or .u32 (x.toNat : Int) (y.toNat : Int) = ((x ||| y).toNat : Int) := x_bits x y (· ||| ·) _ rfl
theorem x_add : ((x.toNat : Int) + (y.toNat : Int)) % (4294967296 : Int) = ((x + y).toNat : Int) := by rw [BitVec.toNat_add]; omega
theorem x_add4 (a b c d : U32) : ((a.toNat : Int) + (b.toNat : Int) + (c.toNat : Int) + (d.toNat : Int)) % (4294967296 : Int) = ((a + b + c + d).toNat : Int) := by
  simp only [BitVec.toNat_add]; omega
theorem x_add5 (a b c d e : U32) : ((a.toNat : Int) + (b.toNat : Int) + (c.toNat : Int) + (d.toNat : Int) + (e.toNat : Int)) % (4294967296 : Int) = ((a + b + c + d + e).toNat : Int) := by
  simp only [BitVec.toNat_add]; omega
theorem x_addw : IntKind.u32.wrap ((x.toNat : Int) + (y.toNat : Int)) = ((x + y).toNat : Int) := by rw [IntKind.wrap_u32]; exact x_add x y
theorem x_not : bits .xor .u32 4294967295 (x.toNat : Int) = ((~~~x).toNat : Int) := by
  have h := x_xor (BitVec.allOnes 32) x
  rw [BitVec.allOnes_xor] at h
  exact h
theorem x_shr3 : (x.toNat : Int) / (8 : Int) = ((x >>> 3).toNat : Int) := by rw [BitVec.toNat_ushiftRight, Nat.shiftRight_eq_div_pow]; rfl
theorem x_shr10 : (x.toNat : Int) / (1024 : Int) = ((x >>> 10).toNat : Int) := by rw [BitVec.toNat_ushiftRight, Nat.shiftRight_eq_div_pow]; rfl
theorem x_shr (n : Nat) : (x.toNat : Int) / 2 ^ n = ((x >>> n).toNat : Int) := by
  rw [BitVec.toNat_ushiftRight, Nat.shiftRight_eq_div_pow, Int.natCast_ediv, Int.natCast_pow]; rfl
theorem x_shl (n : Nat) : ((x.toNat : Int) * 2 ^ n) % (4294967296 : Int) = ((x <<< n).toNat : Int) := by
  rw [BitVec.toNat_shiftLeft, Nat.shiftLeft_eq, Int.natCast_emod, Int.natCast_mul, Int.natCast_pow]; rfl
theorem x_lt : (x.toNat : Int) < 4294967296 := by have := x.isLt; omega
end
theorem x_not' (e : U32) : bits .xor .u32 (if IntKind.u32.signed = true then -1 else IntKind.u32.max) (e.toNat : Int) = ((~~~e).toNat : Int) := x_not e
theorem u64_or_low (n b : Nat) (hn : n * 256 < 18446744073709551616) (hb : b < 256) : bits .or .u64 ((n : Int) * 256) (b : Int) = ((n * 256 + b : Nat) : Int) := by
  have e : bits .or .u64 ((n : Int) * 256) (b : Int) = bits .or .u64 (b : Int) ((n : Int) * 256) := by simp [bits, BitVec.or_comm]
  rw [e, u64_or8 _ _ (by omega) (by omega) (by omega) (by omega) (by omega)]
  omega
namespace Sha
theorem val_lt (l : List UInt8) : val l < 256 ^ l.length := by
  have key : ∀ (l : List UInt8) (n m : Nat), n < 256 ^ m → l.foldl (fun n b => n * 256 + b.toNat) n < 256 ^ (m + l.length) := by
    intro l
    induction l with
    | nil => intro n m h; simpa using h
    | cons b l ih =>
      intro n m h
      simp only [List.foldl_cons, List.length_cons]
      rw [show m + (l.length + 1) = (m + 1) + l.length by omega]
      refine ih _ _ ?_
      have := b.toNat_lt
      rw [Nat.pow_succ]; omega
  simpa [val] using key l 0 0 (by simp)
theorem val_snoc (l : List UInt8) (b : UInt8) : val (l ++ [b]) = val l * 256 + b.toNat := by simp [val]
theorem big_take (n k j : Nat) (h : j < k) : (big n k).take (j + 1) = (big n k).take j ++ [UInt8.ofNat (n / 256 ^ (k - 1 - j))] := by
  induction k generalizing n with
  | zero => omega
  | succ k ih =>
    simp only [big]
    by_cases hj : j < k
    · rw [List.take_append_of_le_length (by rw [big_length]; omega), List.take_append_of_le_length (by rw [big_length]; omega), ih _ hj, Nat.div_div_eq_div_mul, ← Nat.pow_succ']
      rw [show (k - 1 - j).succ = k + 1 - 1 - j by omega]
    · obtain rfl : j = k := by omega
      have hl := big_length (n / 256) j
      rw [List.take_of_length_le (by simp [hl]), List.take_append_of_le_length (by omega), List.take_of_length_le (by omega)]
      simp
end Sha
theorem u8_big (n m : Nat) : ((n : Int) / 2 ^ (8 * m) % 256) = ((UInt8.ofNat (n / 256 ^ m)).toNat : Int) := by
  rw [UInt8.toNat_ofNat', show (256 : Nat) ^ m = 2 ^ (8 * m) by rw [Nat.pow_mul], Int.natCast_emod, Int.natCast_ediv, Int.natCast_pow]; rfl
end Go.Proofs.YtpjpknndfhablaaGreat

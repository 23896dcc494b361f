/- What a store leaves, byte by byte: plain. -/
import Derived.Test.YtgcgnpinhlmmjaaD2
namespace Go.Proofs.Ytgcgnpinhlmmjaa.Hand
set_option linter.unusedVariables false
set_option linter.unusedSimpArgs false
open Go.RowKit Go.Proofs.Ytgcgnpinhlmmjaa.R Go.Proofs.Ytgcgnpinhlmmjaa.Va

theorem doesL_err (L : List Pg) (o : S25) (h : (doesL L o).2.1 ≠ 0) : (doesL L o).1 = L := by
  unfold doesL at *
  split at h
  · rename_i c; rw [if_pos c]; show mapL _ _ _ = L; unfold mapL; exact if_neg h
  rename_i c; rw [if_neg c]
  split at h
  · rename_i c; rw [if_pos c]; show unmapL _ _ = L; unfold unmapL; exact if_neg h
  rename_i c; rw [if_neg c]
  split at h
  · rename_i c; rw [if_pos c]; show protL _ _ _ = L; unfold protL; exact if_neg h
  rename_i c; rw [if_neg c]
  split at h
  · rename_i c; rw [if_pos c]
  rename_i c; rw [if_neg c]
  split at h
  · rename_i c; rw [if_pos c]
  rename_i c; rw [if_neg c]
  split at h
  · rename_i c; rw [if_pos c]; show storeL _ _ _ = L; unfold storeL; exact if_neg h
  rename_i c; rw [if_neg c]
  repeat (first | rfl | split)
theorem doesL_keep (L : List Pg) (o : S25) (h : o.f0 ≠ 0 ∧ o.f0 ≠ 1 ∧ o.f0 ≠ 2 ∧ o.f0 ≠ 4) : (doesL L o).1 = L := by
  unfold doesL
  rw [if_neg h.1, if_neg h.2.1, if_neg h.2.2.1]
  split
  · rfl
  split
  · rfl
  rw [if_neg h.2.2.2]
  repeat (first | rfl | split)
theorem doesL_store (L : List Pg) (o : S25) (h : o.f0 = 4) : doesL L o = (storeL L o.f3.toNat o.f4, mayB L o.f3.toNat (o.f4.length : Int) 2, []) := by
  unfold doesL
  rw [if_neg (by omega), if_neg (by omega), if_neg (by omega), if_neg (by omega), if_neg (by omega), if_pos h]

/-! places -/
theorem canon_place {b : Nat} (hb : b < 18446744073709551616) (h : canonB b = true) : b = sp (4096 * (b % 281474976710656 / 4096)) + b % 4096 := by
  have h1 : sp b = b := of_decide_eq_true h
  unfold sp at h1 ⊢
  split at h1 <;> split <;> omega
theorem place_canon {n k : Nat} (hn : n < 68719476736) (hk : k < 4096) : sp (4096 * n) + k < 18446744073709551616 ∧ canonB (sp (4096 * n) + k) = true ∧ pnum (sp (4096 * n) + k) = (n : Int) ∧ (sp (4096 * n) + k) % 4096 = k := by
  have hlow : (sp (4096 * n) + k) % 281474976710656 = 4096 * n + k := by unfold sp; split <;> omega
  refine ⟨by unfold sp; split <;> omega, ?_, ?_, by unfold sp; split <;> omega⟩
  · apply decide_eq_true
    have hx : sp (4096 * n) + k = if 4096 * n ≥ 140737488355328 then 4096 * n + 18446462598732840960 + k else 4096 * n + k := by
      unfold sp
      rw [show 4096 * n % 281474976710656 = 4096 * n by omega]
      split <;> rfl
    generalize sp (4096 * n) + k = x at *
    unfold sp
    rw [hlow, hx]
    by_cases c : 4096 * n ≥ 140737488355328
    · rw [if_pos c, if_pos (by omega)]; omega
    · rw [if_neg c, if_neg (by omega)]
  · unfold pnum
    rw [hlow]
    omega
theorem byteAt_setB (L : List Pg) (b : Nat) (x : Int) (p : Pg) (hp : getP L (pnum b) = some p) (hl : p.data.length = 4096) (c : Nat) : byteAt (setB L b x) c = if pnum c = pnum b ∧ c % 4096 = b % 4096 then x else byteAt L c := by
  have hpn := (getP_mem hp).2
  unfold byteAt setB
  rw [hp]
  simp only []
  rw [getP_rep]
  by_cases h : pnum c = pnum b
  · rw [if_pos (by rw [hpn]; exact h), hasP_get, h, hp]
    simp only [Option.isSome_some, if_true]
    by_cases h2 : c % 4096 = b % 4096
    · rw [if_pos ⟨trivial, h2⟩, h2, List.getD_eq_getElem?_getD, List.getElem?_set_self (by omega)]
      rfl
    · rw [if_neg (fun e => h2 e.2), List.getD_eq_getElem?_getD, List.getElem?_set_ne (fun e => h2 e.symm), ← List.getD_eq_getElem?_getD]
  · rw [if_neg (by rw [hpn]; exact h), if_neg (fun e => h e.1)]
theorem same_place {b c : Nat} (hb : b < 18446744073709551616) (h1 : canonB b = true) (hc : c < 18446744073709551616) (h2 : canonB c = true) : (pnum c = pnum b ∧ c % 4096 = b % 4096) ↔ c = b := by
  constructor
  · rintro ⟨e1, e2⟩
    unfold pnum at e1
    rw [canon_place hb h1, canon_place hc h2, e2, show c % 281474976710656 / 4096 = b % 281474976710656 / 4096 by omega]
  · rintro rfl
    exact ⟨rfl, rfl⟩
theorem may1_addr {l : List Pg} {a : Nat} {use : Int} {i : Nat} (ha : a < 18446744073709551616) (hi : i ≤ 64) (h : may1 l a use i = 0) : addr a i = a + i ∧ a + i < 18446744073709551616 := by
  obtain ⟨h1, _⟩ := may1_zero h
  unfold addr at *
  omega
theorem byteAt_storeF (a : Nat) (ha : a < 18446744073709551616) (c : Nat) (hc : c < 18446744073709551616) (hcc : canonB c = true) (xs : List Int) : ∀ (i : Nat) (L : List Pg), i + xs.length ≤ 64 → okP L → (∀ x ∈ xs, 0 ≤ x ∧ x < 256) → (∀ j, j < xs.length → may1 L a 2 (i + j) = 0) →
    byteAt (storeF L a i xs) c = if a + i ≤ c ∧ c < a + i + xs.length then xs.getD (c - (a + i)) 0 else byteAt L c := by
  induction xs with
  | nil =>
    intro i L h1 h2 h3 h4
    rw [if_neg (by simp)]
    rfl
  | cons x xs ih =>
    intro i L h1 h2 h3 h4
    rw [List.length_cons] at h1
    show byteAt (storeF (setB L (addr a i) x) a (i + 1) xs) c = _
    have h0 := h4 0 (by simp)
    rw [Nat.add_zero] at h0
    obtain ⟨_, hca, p, hp, _⟩ := may1_zero h0
    obtain ⟨e1, e2⟩ := may1_addr ha (by omega) h0
    have hpl := (h2 p (getP_mem hp).1).2.2.1
    rw [ih (i + 1) (setB L (addr a i) x) (by omega) (h2.setB _ _ (h3 x (by simp))) (fun y hy => h3 y (by simp [hy])) (fun j hj => by
      rw [may1_perm (getP_setB L (addr a i) x)]
      have := h4 (j + 1) (by rw [List.length_cons]; omega)
      rwa [show i + (j + 1) = i + 1 + j by omega] at this), byteAt_setB L (addr a i) x p hp hpl]
    rw [e1] at hca ⊢
    rw [List.length_cons]
    by_cases c1 : a + (i + 1) ≤ c ∧ c < a + (i + 1) + xs.length
    · rw [if_pos c1, if_pos (by omega), show c - (a + i) = (c - (a + (i + 1))) + 1 by omega]
      rfl
    · rw [if_neg c1]
      by_cases c2 : c = a + i
      · rw [if_pos ((same_place e2 hca hc hcc).2 c2), if_pos (by omega), c2, Nat.sub_self]
        rfl
      · rw [if_neg (fun e => c2 ((same_place e2 hca hc hcc).1 e)), if_neg (by omega)]
/-- A page's byte is the memory's. -/
theorem page_byte {L : List Pg} (hs : Srt L) (ho : okP L) {p : Pg} (hp : p ∈ L) (k : Nat) (hk : k < 4096) : byteAt L (sp (4096 * p.n.toNat) + k) = p.data.getD k 0 := by
  obtain ⟨⟨h1, h2⟩, _⟩ := ho p hp
  obtain ⟨_, _, h3, h4⟩ := place_canon (n := p.n.toNat) (k := k) (by omega) hk
  unfold byteAt
  rw [h3, show ((p.n.toNat : Nat) : Int) = p.n by omega, hs.get hp, h4]
/-- The store, page by page. -/
theorem store_page {L : List Pg} (hs : Srt L) (ho : okP L) (a : Nat) (ha : a < 18446744073709551616) (xs : List Int) (hx : ∀ x ∈ xs, 0 ≤ x ∧ x < 256) (hm : mayB L a (xs.length : Int) 2 = 0) {p q : Pg} (hp : p ∈ L) (hq : q ∈ storeF L a 0 xs) (hn : q.n = p.n) (k : Nat) (hk : k < 4096) :
    q.data.getD k 0 = if (sp (4096 * p.n.toNat) + k + (18446744073709551616 - a)) % 18446744073709551616 < xs.length then xs.getD ((sp (4096 * p.n.toNat) + k + (18446744073709551616 - a)) % 18446744073709551616) 0 else p.data.getD k 0 := by
  obtain ⟨m1, m2, m3⟩ := mayB_range hm
  rw [Int.toNat_natCast] at m3
  obtain ⟨⟨n1, n2⟩, _⟩ := ho p hp
  obtain ⟨b1, b2, b3, b4⟩ := place_canon (n := p.n.toNat) (k := k) (by omega) hk
  have h1 := page_byte (hs.storeF (a := a) xs 0) (ho.storeF (a := a) xs hx 0) hq k hk
  rw [hn] at h1
  rw [← h1, byteAt_storeF a ha _ b1 b2 xs 0 L (by omega) ho hx (fun j hj => by rw [Nat.zero_add]; exact m3 j hj), page_byte hs ho hp k hk, Nat.add_zero]
  have hlast := may1_addr ha (i := xs.length - 1) (by omega) (m3 (xs.length - 1) (by omega))
  generalize sp (4096 * p.n.toNat) + k = b at *
  by_cases c1 : a ≤ b ∧ b < a + xs.length
  · have e : (b + (18446744073709551616 - a)) % 18446744073709551616 = b - a := by omega
    rw [if_pos c1, e, if_pos (by omega)]
  · rw [if_neg c1, if_neg (by omega)]
end Go.Proofs.Ytgcgnpinhlmmjaa.Hand

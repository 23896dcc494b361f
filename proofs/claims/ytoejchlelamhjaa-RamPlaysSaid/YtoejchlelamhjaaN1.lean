/- RamPlays, plain: what was written into frames, read. No walk. -/
import Derived.Test.YtoejchlelamhjaaFrD
import Derived.Test.YtoejchlelamhjaaM6
namespace Go.Proofs.Ytoejchlelamhjaa.Hand
set_option linter.unusedVariables false
set_option linter.unusedSimpArgs false
open Go.RowKit Go.Proofs.Ytoejchlelamhjaa.R Go.Proofs.Ytoejchlelamhjaa.Byt Go.Proofs.YtoejchlelamhjaaW.PrintWords Go.Proofs.YtoejchlelamhjaaW.PrintLast Go.Proofs.YtoejchlelamhjaaW.PrintMore

def Zf : List Int := List.replicate 4096 0
/-- A frame's bytes, of what was written. -/
def apW (n : Int) (acc : List Int) (w : S83) : List Int := if w.f0 = n then over acc w.f1.toNat w.f2 else acc
def frameOf (L : List S83) (n : Int) : List Int := L.foldl (apW n) Zf
def WfL (L : List S83) : Prop := ∀ w ∈ L, 0 ≤ w.f1 ∧ w.f1 + (w.f2.length : Int) ≤ 4096
theorem Zf_length : Zf.length = 4096 := List.length_replicate
theorem apW_length (n : Int) (acc : List Int) (w : S83) (h : acc.length = 4096) (hw : 0 ≤ w.f1 ∧ w.f1 + (w.f2.length : Int) ≤ 4096) : (apW n acc w).length = 4096 := by
  unfold apW
  split
  · rw [over_length _ _ _ (by omega), h]
  · exact h
theorem fold_length (n : Int) : ∀ (L : List S83) (acc : List Int), acc.length = 4096 → WfL L → (L.foldl (apW n) acc).length = 4096 := by
  intro L
  induction L with
  | nil => intro acc h _; exact h
  | cons w L ih =>
    intro acc h hL
    exact ih _ (apW_length n acc w h (hL w (List.mem_cons_self ..))) (fun q hq => hL q (List.mem_cons_of_mem _ hq))
theorem frameOf_length (L : List S83) (n : Int) (h : WfL L) : (frameOf L n).length = 4096 := fold_length n L Zf Zf_length h
theorem frameOf_snoc (L : List S83) (w : S83) (n : Int) : frameOf (L ++ [w]) n = apW n (frameOf L n) w := by
  unfold frameOf
  rw [List.foldl_append]
  rfl
/-- Without what was written into one frame. -/
def less (L : List S83) (n : Int) : List S83 := L.filter (fun w => decide (w.f0 ≠ n))
theorem fold_less (n m : Int) : ∀ (L : List S83) (acc : List Int), (less L n).foldl (apW m) acc = if m = n then acc else L.foldl (apW m) acc := by
  intro L
  induction L with
  | nil => intro acc; split <;> rfl
  | cons w L ih =>
    intro acc
    unfold less
    rw [List.filter_cons]
    by_cases h : w.f0 = n
    · rw [if_neg (by simp [h])]
      refine (ih acc).trans ?_
      by_cases hm : m = n
      · rw [if_pos hm, if_pos hm]
      · rw [if_neg hm, if_neg hm, List.foldl_cons]
        congr 1
        unfold apW
        rw [if_neg (by rw [h]; exact fun e => hm e.symm)]
    · rw [if_pos (by simp [h]), List.foldl_cons]
      refine (ih _).trans ?_
      by_cases hm : m = n
      · rw [if_pos hm, if_pos hm]
        unfold apW
        rw [if_neg (by rw [hm]; exact h)]
      · rw [if_neg hm, if_neg hm]
        rfl
theorem frameOf_less (L : List S83) (n m : Int) : frameOf (less L n) m = if m = n then Zf else frameOf L m := fold_less n m L Zf
theorem WfL.less {L : List S83} (h : WfL L) (n : Int) : WfL (less L n) := fun w hw => h w (List.mem_filter.1 hw).1
theorem WfL.snoc {L : List S83} (h : WfL L) {w : S83} (hw : 0 ≤ w.f1 ∧ w.f1 + (w.f2.length : Int) ≤ 4096) : WfL (L ++ [w]) := fun q hq => by
  rcases List.mem_append.1 hq with hq | hq
  · exact h q hq
  · rw [List.mem_singleton.1 hq]; exact hw

/-! Read -/
def cutF (X : List Int) (a s : Nat) : List Int := (X.drop a).take s
theorem cutF_length (X : List Int) (a s : Nat) (h : X.length = 4096) (hs : a + s ≤ 4096) : (cutF X a s).length = s := by
  unfold cutF
  rw [List.length_take, List.length_drop]
  omega
theorem cutF_get (X : List Int) (a s j : Nat) : (cutF X a s)[j]? = if j < s then X[a + j]? else none := by
  unfold cutF
  rw [List.getElem?_take, List.getElem?_drop]
theorem cutF_set (X : List Int) (a s q : Nat) (v : Int) (hX : X.length = 4096) (hs : a + s ≤ 4096) : cutF (X.set q v) a s = if a ≤ q ∧ q < a + s then (cutF X a s).set (q - a) v else cutF X a s := by
  refine List.ext_getElem? (fun j => ?_)
  have hl := cutF_length X a s hX hs
  by_cases hq : a ≤ q ∧ q < a + s
  · rw [if_pos hq, cutF_get, List.getElem?_set]
    by_cases hj : j < s
    · rw [if_pos hj, List.getElem?_set, hl]
      by_cases e : q = a + j
      · rw [if_pos e, if_pos (by omega), if_pos (by omega), if_pos (by omega)]
      · rw [if_neg e, if_neg (by omega), cutF_get, if_pos hj]
    · rw [if_neg hj, List.getElem?_eq_none (by rw [List.length_set, hl]; omega)]
  · rw [if_neg hq, cutF_get, cutF_get]
    by_cases hj : j < s
    · rw [if_pos hj, if_pos hj, List.getElem?_set, if_neg (by omega)]
    · rw [if_neg hj, if_neg hj]
theorem over_step (X l : List Int) (p j : Nat) (hj : j < l.length) (hp : p + l.length ≤ X.length) : over X p (l.take (j + 1)) = (over X p (l.take j)).set (p + j) l[j] := by
  have h1 : (l.take (j + 1)).length = j + 1 := by rw [List.length_take]; omega
  have h2 : (l.take j).length = j := by rw [List.length_take]; omega
  refine List.ext_getElem? (fun k => ?_)
  rw [over_get X p _ k (by omega), List.getElem?_set, over_get X p _ k (by omega), over_length X p _ (by omega), h1, h2]
  by_cases e : p + j = k
  · rw [if_pos e, if_pos (by omega), if_pos (by omega), List.getElem?_take, if_pos (by omega), show k - p = j by omega, List.getElem?_eq_getElem hj]
  · rw [if_neg e]
    by_cases c : p ≤ k ∧ k < p + j
    · rw [if_pos c, if_pos (by omega), List.getElem?_take, List.getElem?_take, if_pos (by omega), if_pos (by omega)]
    · rw [if_neg c, if_neg (by omega)]
theorem rd83 (xs : List S83) (i : Nat) (h : i < xs.length) : rd_T83 xs (i : Int) = xs[i] := by
  unfold rd_T83
  rw [Int.toNat_natCast, List.getD_eq_getElem?_getD, List.getElem?_eq_getElem h]
  rfl
theorem read_l1 (own wh : List Int) (now : Int) (L : List S83) (n : Int) (a s : Nat) (hs : a + s ≤ 4096) (i : Nat) (w : S83) (hw : 0 ≤ w.f1 ∧ w.f1 + (w.f2.length : Int) ≤ 4096) (X : List Int) (hX : X.length = 4096) : ∀ (d k j : Nat), j + d = w.f2.length →
    gunnyref06_Read.l1 (k + d + 1) n (a : Int) (s : Int) (cutF (over X w.f1.toNat (w.f2.take j)) a s) (i : Int) (j : Int) own wh now L w.f0 w.f1 w.f2 = gunnyref06_Read.l0 k n (a : Int) (s : Int) (cutF (over X w.f1.toNat w.f2) a s) (wrap64 ((i : Int) + 1)) own wh now L := by
  intro d
  induction d with
  | zero =>
    intro k j h
    simp only [gunnyref06_Read.l1, Nat.add_zero]
    rw [if_neg (by omega), List.take_of_length_le (by omega)]
  | succ d ih =>
    intro k j h
    have hj : j < w.f2.length := by omega
    have e1 : wrap64 (wrap64 (w.f1 + (j : Int)) - (a : Int)) = w.f1 + (j : Int) - (a : Int) := by unfold wrap64; omega
    have hn := ih k (j + 1) (by omega)
    have hlen : (over X w.f1.toNat (w.f2.take j)).length = 4096 := by rw [over_length _ _ _ (by rw [List.length_take]; omega), hX]
    have hst := over_step X w.f2 w.f1.toNat j hj (by omega)
    have hcs := cutF_set (over X w.f1.toNat (w.f2.take j)) a s (w.f1.toNat + j) w.f2[j] hlen hs
    rw [← hst] at hcs
    have hcl := cutF_length _ a s hlen hs
    rw [show k + (d + 1) + 1 = (k + d + 1) + 1 by omega]
    simp only [gunnyref06_Read.l1]
    rw [if_pos (by omega), e1, w64s j (by omega)]
    by_cases c1 : w.f1 + (j : Int) - (a : Int) ≥ 0
    · rw [if_pos c1]
      by_cases c2 : w.f1 + (j : Int) - (a : Int) < (s : Int)
      · rw [if_pos c2, if_pos (by omega), if_pos c1, if_pos (by rw [hcl]; omega), rd_at w.f2 j hj, show (w.f1 + (j : Int) - (a : Int)).toNat = w.f1.toNat + j - a by omega]
        rw [if_pos (by omega)] at hcs
        rw [← hcs]
        exact hn
      · rw [if_neg c2]
        rw [if_neg (by omega)] at hcs
        rw [← hcs]
        exact hn
    · rw [if_neg c1]
      rw [if_neg (by omega)] at hcs
      rw [← hcs]
      exact hn
theorem read_l0 (own wh : List Int) (now : Int) (L : List S83) (hL : WfL L) (hl : L.length < 1000000) (n : Int) (a s : Nat) (hs : a + s ≤ 4096) : ∀ (d k i : Nat), i + d = L.length → 4099 * d < k →
    gunnyref06_Read.l0 k n (a : Int) (s : Int) (cutF (frameOf (L.take i) n) a s) (i : Int) own wh now L = some (cutF (frameOf L n) a s) := by
  intro d
  induction d with
  | zero =>
    intro k i h1 h2
    obtain ⟨k, rfl⟩ : ∃ m, k = m + 1 := ⟨k - 1, by omega⟩
    simp only [gunnyref06_Read.l0]
    rw [if_neg (by omega), List.take_of_length_le (by omega)]
  | succ d ih =>
    intro k i h1 h2
    have hi : i < L.length := by omega
    have hw := hL L[i] (List.getElem_mem hi)
    have hX := frameOf_length (L.take i) n (fun q hq => hL q (List.mem_of_mem_take hq))
    obtain ⟨k, rfl⟩ : ∃ m, k = m + L[i].f2.length + 1 + 1 := ⟨k - L[i].f2.length - 2, by omega⟩
    have hsn : frameOf (L.take (i + 1)) n = apW n (frameOf (L.take i) n) L[i] := by rw [List.take_succ_eq_append_getElem hi, frameOf_snoc]
    simp only [gunnyref06_Read.l0]
    rw [if_pos (by omega), if_pos (by omega), rd83 L i hi]
    by_cases c : L[i].f0 = n
    · rw [if_pos c]
      have := read_l1 own wh now L n a s hs i L[i] hw (frameOf (L.take i) n) hX L[i].f2.length k 0 (by omega)
      rw [List.take_zero, over_nil] at this
      refine this.trans ?_
      have hn := ih k (i + 1) (by omega) (by omega)
      rw [hsn] at hn
      unfold apW at hn
      rw [if_pos c] at hn
      rw [w64s i (by omega)]
      exact hn
    · rw [if_neg c]
      have hn := ih (k + L[i].f2.length + 1) (i + 1) (by omega) (by omega)
      rw [hsn] at hn
      unfold apW at hn
      rw [if_neg c] at hn
      rw [w64s i (by omega)]
      exact hn
theorem Read_some (own wh : List Int) (now : Int) (L : List S83) (hL : WfL L) (hl : L.length ≤ 100) (n : Int) (a s : Nat) (hs : a + s ≤ 4096) (k : Nat) (hk : 500000 ≤ k) : gunnyref06_Read.f k own wh now L n (a : Int) (s : Int) = some (cutF (frameOf L n) a s) := by
  unfold gunnyref06_Read.f
  rw [if_pos (by omega), if_pos (by omega), Int.toNat_natCast]
  have := read_l0 own wh now L hL (by omega) n a s hs L.length k 0 (by omega) (by omega)
  rw [List.take_zero] at this
  have e : cutF (frameOf [] n) a s = List.replicate s 0 := by
    refine List.ext_getElem? (fun j => ?_)
    rw [cutF_get]
    show (if j < s then Zf[a + j]? else none) = _
    unfold Zf
    rw [List.getElem?_replicate, List.getElem?_replicate]
    by_cases hj : j < s
    · rw [if_pos hj, if_pos (by omega), if_pos hj]
    · rw [if_neg hj, if_neg hj]
  rw [e] at this
  exact this
/-- There. -/
theorem There_some (own wh : List Int) (now : Int) (L : List S83) (hO : own.length < 1000000) (n a s : Int) (hs : s < 9223372036854775808) : gunnyref06_There.f own wh now L n a s = some (decide (pk own n a s)) := by
  unfold gunnyref06_There.f
  by_cases h0 : n ≥ 0
  · rw [if_pos h0]
    by_cases h1 : n < (own.length : Int)
    · obtain ⟨x, rfl⟩ : ∃ x : Nat, n = (x : Int) := ⟨n.toNat, by omega⟩
      have hx : x < own.length := by omega
      have ho := ownerOf_in own x hx
      rw [if_pos h1, if_pos (by omega), rd_at own x hx]
      by_cases h2 : own[x] = 0
      · rw [if_pos h2, decide_eq_false]
        rintro ⟨p, _⟩
        exact p (by rw [ho, h2])
      · rw [if_neg h2]
        by_cases h3 : s ≥ 0
        · rw [if_pos h3]
          by_cases h4 : s ≤ 4096
          · rw [if_pos h4]
            have e : wrap64 (4096 - s) = 4096 - s := by unfold wrap64; omega
            by_cases h5 : a ≥ 0
            · rw [if_pos h5, e]
              congr 1
              rw [decide_eq_decide]
              unfold pk
              rw [ho]
              exact ⟨fun h => ⟨h2, h3, h5, h⟩, fun h => h.2.2.2⟩
            · rw [if_neg h5, decide_eq_false (fun h => h5 h.2.2.1)]
          · rw [if_neg h4, decide_eq_false]
            rintro ⟨_, _, p, q⟩
            omega
        · rw [if_neg h3, decide_eq_false (fun h => h3 h.2.1)]
    · rw [if_neg h1, decide_eq_false]
      rintro ⟨p, _⟩
      have := ownerOf_ne p
      omega
  · rw [if_neg h0, decide_eq_false]
    rintro ⟨p, _⟩
    have := ownerOf_ne p
    omega
theorem Write_some (own wh : List Int) (now : Int) (L : List S83) (hl : L.length < 1000000) (n a : Int) (b : List Int) (hb : b.length < 1000000) : gunnyref06_Write.f own wh now L n a b = some (own, wh, now, L ++ [⟨n, a, b⟩]) := by
  unfold gunnyref06_Write.f
  simp only [Option.bind_some, List.nil_append]
  rw [if_pos (by simp only [List.length_nil]; omega), if_pos (by simp only [List.length_nil]; omega), if_pos (by omega)]

/-! what is kept -/
structure PI (own F wh : List Int) (now : Int) (B : List Int) (L : List S83) (n f : Nat) : Prop where
  wi : WI own F wh now n f
  bl : B.length = 4096 * n
  by_ : isBytes B
  wf : WfL L
  fr : ∀ m : Nat, m < n → ownerOf own (m : Int) ≠ 0 → (B.drop (4096 * m)).take 4096 = frameOf L (m : Int)
theorem take_over_same (B l : List Int) (p a : Nat) (h : p + 4096 ≤ B.length) (ha : a + l.length ≤ 4096) : ((over B (p + a) l).drop p).take 4096 = over ((B.drop p).take 4096) a l := by
  have hl : ((B.drop p).take 4096).length = 4096 := by rw [List.length_take, List.length_drop]; omega
  refine List.ext_getElem? (fun k => ?_)
  rw [List.getElem?_take, List.getElem?_drop, over_get B (p + a) l (p + k) (by omega), over_get _ a l k (by omega), List.getElem?_take, List.getElem?_drop]
  by_cases hk : k < 4096
  · rw [if_pos hk, if_pos hk]
    by_cases c : a ≤ k ∧ k < a + l.length
    · rw [if_pos c, if_pos (by omega), show p + k - (p + a) = k - a by omega]
    · rw [if_neg c, if_neg (by omega)]
  · rw [if_neg hk, if_neg hk, if_neg (by omega)]
theorem take_over_other (B l : List Int) (p q : Nat) (h : q + l.length ≤ B.length) (hne : q + l.length ≤ p ∨ p + 4096 ≤ q) : ((over B q l).drop p).take 4096 = (B.drop p).take 4096 := by
  refine List.ext_getElem? (fun k => ?_)
  rw [List.getElem?_take, List.getElem?_drop, over_get B q l (p + k) h, List.getElem?_take, List.getElem?_drop]
  by_cases hk : k < 4096
  · rw [if_pos hk, if_pos hk, if_neg (by omega)]
  · rw [if_neg hk, if_neg hk]
theorem PI.wr {own F wh : List Int} {now : Int} {B : List Int} {L : List S83} {n f : Nat} (h : PI own F wh now B L n f) (x a : Nat) (l : List Int) (hx : x < n) (ha : a + l.length ≤ 4096) (hl : isBytes l) :
    PI own F wh now (over B (4096 * x + a) l) (L ++ [⟨(x : Int), (a : Int), l⟩]) n f := by
  have hB := h.bl
  refine ⟨h.wi, by rw [over_length _ _ _ (by omega)]; exact hB, isBytes_over h.by_ hl _, h.wf.snoc ⟨by show (0 : Int) ≤ (a : Int); omega, by show (a : Int) + (l.length : Int) ≤ 4096; omega⟩, fun m hm ho => ?_⟩
  rw [frameOf_snoc]
  unfold apW
  by_cases e : x = m
  · subst e
    rw [if_pos rfl, take_over_same B l (4096 * x) a (by omega) ha, h.fr x hm ho]
    rfl
  · rw [if_neg (show ¬ ((x : Int) = (m : Int)) by omega), take_over_other B l (4096 * m) (4096 * x + a) (by omega) (by omega)]
    exact h.fr m hm ho
theorem PI.more {own F wh : List Int} {now : Int} {B : List Int} {L : List S83} {n f : Nat} (h : PI own F wh now B L n f) (hf : f + 1 < 1000000) : PI own F wh now B L n (f + 1) := ⟨h.wi.more hf, h.bl, h.by_, h.wf, h.fr⟩
theorem PI.gd {own F wh : List Int} {now : Int} {B : List Int} {L : List S83} {n f : Nat} (h : PI own F wh now B L n f) (h96 : n ≤ 96) : Gd own F B n f := ⟨h.wi.ok, h96, h.bl, h.by_⟩
theorem PI.give {own F wh : List Int} {now : Int} {B : List Int} {L : List S83} {n f : Nat} (h : PI own F wh now B L n f) (hf : f + 1 < 1000000) (hnow : now + 1 < 1000000) (x : Nat) (hx : x < n) (hn : ownerOf own (x : Int) ≠ 0) :
    PI (own.set x 0) (F ++ [(x : Int)]) (wh.set x (now + 1)) (now + 1) B L n (f + 1) := by
  refine ⟨h.wi.give hf hnow x hx hn, h.bl, h.by_, h.wf, fun m hm ho => h.fr m hm (fun e => ho ?_)⟩
  rw [own_set own x 0 _ (by have := h.wi.ok.len; omega), e]
  split <;> rfl
theorem PI.take {own G wh : List Int} {now : Int} {B : List Int} {L : List S83} {n f : Nat} (x : Nat) (h : PI own (G ++ [(x : Int)]) wh now B L n f) (owner : Int) (h1 : 1 ≤ owner) (h3 : owner ≤ 3) :
    PI (own.set x owner) G wh now (over B (4096 * x) Zf) (less L (x : Int)) n f := by
  have hB := h.bl
  have hx := h.wi.ok.are (x : Int) (by simp)
  have hz : Zf.length = 4096 := Zf_length
  refine ⟨h.wi.take x owner h1 h3, by rw [over_length _ _ _ (by omega)]; exact hB, isBytes_over h.by_ (isBytes_zeros _) _, h.wf.less _, fun m hm ho => ?_⟩
  rw [frameOf_less]
  by_cases e : m = x
  · subst e
    have := take_over_same B Zf (4096 * m) 0 (by omega) (by omega)
    rw [Nat.add_zero] at this
    rw [if_pos rfl, this]
    have hl : ((B.drop (4096 * m)).take 4096).length = 4096 := by rw [List.length_take, List.length_drop]; omega
    unfold over
    rw [List.take_zero, List.nil_append, List.drop_of_length_le (by omega), List.append_nil]
  · rw [if_neg (by omega), take_over_other B Zf (4096 * m) (4096 * x) (by omega) (by omega)]
    refine h.fr m hm (fun e2 => ho ?_)
    rw [own_set own x owner _ (by have := h.wi.ok.len; omega), if_neg (by omega)]
    exact e2
theorem PI.new (n : Nat) (hn : n ≤ 96) : PI (List.replicate n 0) (dn n 0) (whens n n) (n : Int) (List.replicate (4096 * n) 0) [] n n :=
  ⟨WI.new n (by omega), List.length_replicate, isBytes_zeros _, fun w hw => by simp at hw, fun m hm ho => absurd (ownerOf_zeros n (m : Int)) ho⟩
theorem PI.wrq {own F wh : List Int} {now : Int} {B : List Int} {L : List S83} {m f : Nat} (h : PI own F wh now B L m f) {n a : Int} {l : List Int} (hp : pk own n a (l.length : Int)) (hl : isBytes l) : PI own F wh now (wrB own B n a l) (L ++ [⟨n, a, l⟩]) m f := by
  have hb := ownerOf_ne hp.1
  have hlen := h.wi.ok.len
  have h1 := hp.2.1
  have h2 := hp.2.2
  obtain ⟨x, rfl⟩ : ∃ x : Nat, n = (x : Int) := ⟨n.toNat, by omega⟩
  obtain ⟨y, rfl⟩ : ∃ y : Nat, a = (y : Int) := ⟨a.toNat, by omega⟩
  have hw : wrB own B (x : Int) (y : Int) l = over B (4096 * x + y) l := by unfold wrB; rw [if_pos hp, Int.toNat_natCast, Int.toNat_natCast]
  rw [hw]
  exact h.wr x y l (by omega) (by omega) hl
/-- .. as the document reads it. -/
theorem Read_part {own F wh : List Int} {now : Int} {B : List Int} {L : List S83} {m f : Nat} (h : PI own F wh now B L m f) (hL : L.length ≤ 100) {n a s : Int} (hp : pk own n a s) (hpart : ∀ x y z : Nat, pk own (x : Int) (y : Int) (z : Int) → part own B (x : Int) (y : Int) (z : Int) = cutF (frameOf L (x : Int)) y z) : gunnyref06_Read.f 500000 own wh now L n a s = some (part own B n a s) := by
  have hb := ownerOf_ne hp.1
  have h1 := hp.2.1
  have h2 := hp.2.2
  obtain ⟨x, rfl⟩ : ∃ x : Nat, n = (x : Int) := ⟨n.toNat, by omega⟩
  obtain ⟨y, rfl⟩ : ∃ y : Nat, a = (y : Int) := ⟨a.toNat, by omega⟩
  obtain ⟨z, rfl⟩ : ∃ z : Nat, s = (z : Int) := ⟨s.toNat, by omega⟩
  rw [Read_some own wh now L h.wf hL (x : Int) y z (by omega) 500000 (by omega), hpart x y z hp]
/-- What is read is what was written. -/
theorem PI.reads {own F wh : List Int} {now : Int} {B : List Int} {L : List S83} {n f : Nat} (h : PI own F wh now B L n f) (x a s : Nat) (hp : pk own (x : Int) (a : Int) (s : Int)) : part own B (x : Int) (a : Int) (s : Int) = cutF (frameOf L (x : Int)) a s := by
  have hx := ownerOf_ne hp.1
  have := h.wi.ok.len
  have hs := hp.2.2.2
  unfold Hand.part cutF
  rw [if_pos hp, Int.toNat_natCast, Int.toNat_natCast, Int.toNat_natCast, ← h.fr x (by omega) hp.1, List.drop_take, List.drop_drop, List.take_take, Nat.min_eq_left (by omega)]

end Go.Proofs.Ytoejchlelamhjaa.Hand

/- copy(out[at:], ys) onto a row of bytes of one's own: the bytes from 'at' on are ys' then. -/
import Derived.Test.YtmmnkanijdbgpaaWWords
import Derived.Test.YtmmnkanijdbgpaaWApart
import Derived.Test.YtmmnkanijdbgpaaWInvWords
namespace Go.Proofs.Ytmmnkanijdbgpaa.CopyAt
set_option linter.unusedVariables false
set_option linter.unusedSimpArgs false
open Go.RowKit Go.Proofs.YtmmnkanijdbgpaaW.PrintWords

/-- What copy does there: the run, and what is known behind it. -/
theorem copy_run {P : Program} {w0 W : World} (k : IntKind) (base : Nat) (t t' ot e : TypeId) (ht : P.underlying t = some (.slice e)) (hinfo : (P.info? e).map (·.size) = some 1)
    (g at_ cap n1 c1 m c : Nat) (A : Option Addr) (xs ys : List Int) (ok : Nat → Prop) (hn1 : n1 = xs.length - at_)
    (HO : (Kd.int k).R e W base ok (.slice (some ⟨g, 0, none⟩) xs.length cap) xs) (HR : (Kd.int k).C W A m ys) (HB : Below base w0 W) (hfit : at_ + m ≤ xs.length) (hm0 : 0 < m) :
    ∃ w1, (Builtin.copy_ #[t, t'] ot #[.slice (some ⟨g, at_, none⟩) n1 c1, .slice A m c]).run P W = .ok (.int .i64 ((m : Nat) : Int)) w1 ∧ (Kd.int k).R e w1 base ok (.slice (some ⟨g, 0, none⟩) xs.length cap) (xs.take at_ ++ ys ++ xs.drop (at_ + m)) ∧ Below base w0 w1 := by
  have hR := Kd.reads_of_C (enc := Value.int k) (d := (0 : Int)) (h1 := fun _ => rfl) HR
  have hm : ys.length = m := hR.1
  have hown := Kd.own_of_R HO
  have hbg : base ≤ g := own_base hown g (by simp [Value.ownBlock])
  obtain ⟨ad, hA, hc⟩ := hR.2.2 hm0
  rcases hown.2 with ⟨hv, _⟩ | ⟨g', cap', cur, hv, hb, hh, hnc, hcm, hcs, htake⟩
  · cases hv
  injection hv with hv1 _ hv3
  injection hv1 with hv1
  injection hv1 with hv1
  subst hv1
  subst hv3
  have hcs1 : cur.size = cap := by omega
  have hkl : (encs (Value.int k) ys).length = m := by rw [encs_length]; exact hm
  have hsrc : ∀ j u, (encs (Value.int k) ys)[j]? = some u → W.cell? (ad.add j) = some u := by
    intro j u hu
    have hj : j < ys.length := by
      rcases Nat.lt_or_ge j ys.length with h | h
      · exact h
      · rw [List.getElem?_eq_none (by rw [encs_length]; exact h)] at hu
        cases hu
    rw [encs_get (d := (0 : Int)) _ j hj] at hu
    rw [hc j (by omega), ← hu]
  have hr := run_copy_cells (P := P) W t t' ot e g at_ n1 c1 ad m c (encs (Value.int k) ys) ht hinfo (by rw [hkl, hn1]; exact (Nat.min_eq_left (by omega)).symm) hsrc
    (fun j hj => by rw [cell_of_row W g _ cur e (0, 0) hh]; simp; omega) (fun j _ => blk_frozen hh _) (by intro u hu; simp only [encs, List.mem_map] at hu; obtain ⟨q, _, rfl⟩ := hu; rfl)
  obtain ⟨cur', h3, h4, h5⟩ := setCells_row (encs (Value.int k) ys) at_ W cur hh (by rw [hkl]; omega)
  obtain ⟨s1, s2, s3, s4⟩ := setCells_same g (encs (Value.int k) ys) at_ W
  have hg : W.grownBy (W.setCells g at_ (encs (Value.int k) ys)) (some g) := ⟨s1, s2, s3, by rw [s4]; exact Nat.le_refl _, fun k' _ hk => setCells_far _ _ k' (fun he => hk (by rw [he]))⟩
  have e0 : (goInt ((encs (Value.int k) ys).length : Int)) = .int .i64 ((m : Nat) : Int) := by rw [hkl]; rfl
  have hln : (xs.take at_ ++ ys ++ xs.drop (at_ + m)).length = xs.length := by
    rw [List.length_append, List.length_append, List.length_take, List.length_drop]
    omega
  refine ⟨_, by rw [hA, hr, e0], Kd.R_of_own ?_ HO.1, HB.grown hg (Nat.le_of_lt (Nat.lt_of_le_of_lt hbg (blk_lt hh))) (by intro k' hk'; injection hk' with hk'; omega)⟩
  rw [hln]
  refine ⟨by rw [encs_length, hln, Nat.mul_one], .inr ⟨g, cap, cur', rfl, hb, h3, hnc, hcm, by rw [h4, hcs], ?_⟩⟩
  have htk : cur.toList.take xs.length = encs (Value.int k) xs := by rw [← htake, Nat.mul_one]
  rw [h5, hkl, encs_append, encs_append, Nat.mul_one]
  have e1 : encs (Value.int k) (xs.take at_) = cur.toList.take at_ := by
    have : encs (Value.int k) (xs.take at_) = (encs (Value.int k) xs).take at_ := by simp [encs, List.map_take]
    rw [this, ← htk, List.take_take, Nat.min_eq_left (by omega)]
  have e2 : encs (Value.int k) (xs.drop (at_ + m)) = (cur.toList.take xs.length).drop (at_ + m) := by
    have : encs (Value.int k) (xs.drop (at_ + m)) = (encs (Value.int k) xs).drop (at_ + m) := by simp [encs, List.map_drop]
    rw [this, ← htk]
  rw [e1, e2]
  have l1 : (cur.toList.take at_).length = at_ := by rw [List.length_take, Array.length_toList]; omega
  rw [List.take_append, List.length_append, l1, hkl, List.take_of_length_le (by rw [List.length_append, l1, hkl]; omega)]
  congr 1
  rw [List.drop_take]

theorem step_copy_at {P : Program} {ops : Array Oper} {o : Oper} {a : Act} {w0 W : World} {K : Act → World → Prop} {Q : Exit → Act → World → Prop} {E : Prop} (k : IntKind) (base : Nat) (hgd : o.guard = none) (s x : Operand) (t t' e : TypeId)
    (ho : o.op = .call { callee := .builtin .copy, args := #[s, x], argTypes := #[t, t'] }) (ht : P.underlying t = some (.slice e)) (hinfo : (P.info? e).map (·.size) = some 1)
    (g at_ cap n1 c1 m c : Nat) (A : Option Addr) (xs ys : List Int) (ok : Nat → Prop) (hs : a.eval s = .slice (some ⟨g, at_, none⟩) n1 c1) (hn1 : n1 = xs.length - at_) (hx : a.eval x = .slice A m c)
    (HO : (Kd.int k).R e W base ok (.slice (some ⟨g, 0, none⟩) xs.length cap) xs) (HR : (Kd.int k).C W A m ys) (HB : Below base w0 W) (hfit : at_ + m ≤ xs.length) (hm0 : 0 < m)
    (h : ∀ w1, (Kd.int k).R e w1 base ok (.slice (some ⟨g, 0, none⟩) xs.length cap) (xs.take at_ ++ ys ++ xs.drop (at_ + m)) → Below base w0 w1 → K (a.put o.dst (.int .i64 ((m : Nat) : Int))) w1) :
    if Region.wanted o (yielded ops a.tmps) = true then Oper.wp P o a W K Q else E := by
  have hw : Region.wanted o (yielded ops a.tmps) = true := by simp [Region.wanted, hgd]
  rw [if_pos hw]
  obtain ⟨w1, hrun, h1, h2⟩ := copy_run (P := P) k base t t' o.type e ht hinfo g at_ cap n1 c1 m c A xs ys ok hn1 HO HR HB hfit hm0
  unfold Oper.wp
  simp only [execOp, ho, resolve, invoke, builtin, Sem.run_bind, Sem.run_pure, Result.andThen_ok, List.map_toArray, List.map_cons, List.map_nil, hs, hx, hrun]
  exact h _ h1 h2

theorem lit_C (w : World) (k : IntKind) (xs : List Int) (cs : Array Value) (e : TypeId) (fr : Nat × Nat) (hcs : cs = (xs.map (Value.int k)).toArray) (hl : xs.length < 1000) : Kd.C (Kd.int k) (w.alloc (.cells cs e fr)) (some ⟨w.heap.size, 0, none⟩) xs.length xs := by
  subst hcs
  refine ⟨rfl, by omega, fun _ => ⟨_, rfl, fun j p hj => ⟨[.int k p], rfl, rfl, fun i u hu => ?_⟩⟩⟩
  have hi : i = 0 := by
    have := (List.getElem?_eq_some_iff.1 hu).1
    simp at this
    exact this
  subst hi
  simp at hu
  subst hu
  have hn : (w.alloc (.cells (xs.map (Value.int k)).toArray e fr)).heap[w.heap.size]? = some (.cells (xs.map (Value.int k)).toArray e fr) := blk_new w _
  have : (⟨w.heap.size, 0, none⟩ : Addr).add (j * 1 + 0) = ⟨w.heap.size, j, none⟩ := by
    by_cases h : j = 0 <;> simp [Addr.add, h]
  show World.cell? _ ((⟨w.heap.size, 0, none⟩ : Addr).add (j * 1 + 0)) = _
  rw [this]
  unfold World.cell?
  rw [hn]
  simp [hj]

def findOk (L : List Int) (page : Nat) (use : Int) : Prop := (use = 1 ∨ use = 2 ∨ use = 4) ∧ page < 68719476736 ∧ L[page % 16 * 3]? = some ((page + 1 : Nat) : Int) ∧ (Go.bits .and .i64 ((L[page % 16 * 3 + 2]?).getD 0) use == 0) = false

end Go.Proofs.Ytmmnkanijdbgpaa.CopyAt

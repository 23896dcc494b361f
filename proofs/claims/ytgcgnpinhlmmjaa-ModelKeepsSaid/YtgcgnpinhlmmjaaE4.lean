/- A row of two ops; pages behind a store. -/
import Derived.Test.YtgcgnpinhlmmjaaE3
namespace Go.Proofs.Ytgcgnpinhlmmjaa.Hand
set_option linter.unusedVariables false
set_option linter.unusedSimpArgs false
open Go.RowKit Go.Maps Go.Proofs.Ytgcgnpinhlmmjaa.R Go.Proofs.Ytgcgnpinhlmmjaa.Va Go.Proofs.YtgcgnpinhlmmjaaW.PrintWords Go.Proofs.YtgcgnpinhlmmjaaW.PrintLast Go.Proofs.YtgcgnpinhlmmjaaW.PrintMore

theorem twoC {W : World} {g : Nat} {k1 p1 n1 a1 k2 p2 n2 a2 : Int} (h : W.heap[g]? = some (.cells #[.int .i64 k1, .int .i64 p1, .int .i64 n1, .int .u64 a1, .slice none 0 0, .int .i64 k2, .int .i64 p2, .int .i64 n2, .int .u64 a2, .slice none 0 0] 25 (0, 0))) : Kd.C k25 W (some ⟨g, 0, none⟩) [(⟨k1, p1, n1, a1, []⟩ : S25), ⟨k2, p2, n2, a2, []⟩].length [⟨k1, p1, n1, a1, []⟩, ⟨k2, p2, n2, a2, []⟩] := by
  refine ⟨rfl, by show 2 ≤ 9223372036854775807; decide, fun _ => ⟨_, rfl, fun j p hj => ?_⟩⟩
  have hcl := c_blk h
  match j, hj with
  | 0, hj =>
    obtain rfl := Option.some.inj hj
    refine ⟨_, rfl, k25_mk W ⟨k1, p1, n1, a1, []⟩ (A4 := none) (c4 := 0) (Nat.le_refl _) (Kd.C_nil _ _), fun i u hi => ?_⟩
    rw [show 0 * k25.sz + i = i by simp, hcl i]
    match i, hi with
    | 0, hi => exact hi
    | 1, hi => exact hi
    | 2, hi => exact hi
    | 3, hi => exact hi
    | 4, hi => exact hi
  | 1, hj =>
    obtain rfl := Option.some.inj hj
    refine ⟨_, rfl, k25_mk W ⟨k2, p2, n2, a2, []⟩ (A4 := none) (c4 := 0) (Nat.le_refl _) (Kd.C_nil _ _), fun i u hi => ?_⟩
    rw [show 1 * k25.sz + i = 5 + i by rw [Nat.one_mul]; rfl, hcl (5 + i)]
    match i, hi with
    | 0, hi => exact hi
    | 1, hi => exact hi
    | 2, hi => exact hi
    | 3, hi => exact hi
    | 4, hi => exact hi
theorem twoF {W : World} {g : Nat} {k1 p1 n1 a1 k2 p2 n2 a2 : Int} (h : W.heap[g]? = some (.cells #[.int .i64 k1, .int .i64 p1, .int .i64 n1, .int .u64 a1, .slice none 0 0, .int .i64 k2, .int .i64 p2, .int .i64 n2, .int .u64 a2, .slice none 0 0] 25 (0, 0))) : Kd.F k25 W (fun k => k = g) (some ⟨g, 0, none⟩) [(⟨k1, p1, n1, a1, []⟩ : S25), ⟨k2, p2, n2, a2, []⟩].length [⟨k1, p1, n1, a1, []⟩, ⟨k2, p2, n2, a2, []⟩] := fun W' hW =>
  twoC ((hW g rfl (blk_lt h)).trans h)
theorem rd35_map (L : List Pg) (i : Nat) (hi : i < L.length) : rd_T35 (L.map pageOf) (i : Int) = pageOf L[i] := by
  unfold rd_T35
  rw [Int.toNat_natCast, List.getD_eq_getElem?_getD, List.getElem?_map, List.getElem?_eq_getElem hi]
  rfl
theorem storeF_len (L : List Pg) (a : Nat) (xs : List Int) : (storeF L a 0 xs).length = L.length := by
  have h := congrArg List.length (storeF_ns (a := a) xs (l := L) 0)
  rwa [List.length_map, List.length_map] at h
/-- A page and what a store has made of it. -/
structure StoreRow (L L2 : List Pg) (a : Nat) (xs : List Int) (i : Nat) (v : Nat) (x y : S35) : Prop where
  f0 : x.f0 = (v : Int)
  g0 : y.f0 = (v : Int)
  lt : v + 4096 ≤ 18446744073709551616
  xl : x.f2.length = 4096
  yl : y.f2.length = 4096
  eq : ∀ k, k < 4096 → y.f2.getD k 0 = if (v + k + (18446744073709551616 - a)) % 18446744073709551616 < xs.length then xs.getD ((v + k + (18446744073709551616 - a)) % 18446744073709551616) 0 else x.f2.getD k 0
theorem store_rows {L : List Pg} (hs : Srt L) (ho : okP L) (a : Nat) (ha : a < 18446744073709551616) (xs : List Int) (hx : ∀ x ∈ xs, 0 ≤ x ∧ x < 256) (hm : mayB L a (xs.length : Int) 2 = 0) (i : Nat) (hi : i < L.length) :
    ∃ v, StoreRow L (storeF L a 0 xs) a xs i v (rd_T35 (L.map pageOf) (i : Int)) (rd_T35 ((storeF L a 0 xs).map pageOf) (i : Int)) := by
  have hl := storeF_len L a xs
  have hi2 : i < (storeF L a 0 xs).length := by omega
  rw [rd35_map L i hi, rd35_map _ i hi2]
  have hn : ((storeF L a 0 xs)[i]).n = (L[i]).n := by
    have h := congrArg (fun l : List Int => l[i]?) (storeF_ns (a := a) xs (l := L) 0)
    simp only [List.getElem?_map, List.getElem?_eq_getElem hi, List.getElem?_eq_getElem hi2, Option.map_some] at h
    exact Option.some.inj h
  obtain ⟨⟨n1, n2⟩, _, h3, _⟩ := ho _ (List.getElem_mem hi)
  obtain ⟨_, _, h4, _⟩ := ho.storeF (a := a) xs hx 0 _ (List.getElem_mem hi2)
  refine ⟨sp (4096 * (L[i]).n.toNat), rfl, ?_, ?_, h3, h4, fun k hk => store_page hs ho a ha xs hx hm (List.getElem_mem hi) (List.getElem_mem hi2) hn k hk⟩
  · show ((sp (4096 * ((storeF L a 0 xs)[i]).n.toNat) : Nat) : Int) = _
    rw [hn]
  · have h5 : 4096 * (L[i]).n.toNat < 281474976710656 := by omega
    have h6 : 4096 * (L[i]).n.toNat % 4096 = 0 := by omega
    generalize 4096 * (L[i]).n.toNat = b at *
    unfold sp
    split <;> omega
theorem wrap_page (a : Nat) (ha : a < 18446744073709551616) : IntKind.u64.wrap ((a : Int) - (a : Int).tmod 4096) = ((a - a % 4096 : Nat) : Int) := by
  have h : (a : Int).tmod 4096 = ((a % 4096 : Nat) : Int) := by rw [Int.tmod_eq_emod_of_nonneg (by omega)]; omega
  rw [h, ← Int.ofNat_sub (Nat.mod_le _ _)]
  exact u64i _ (by omega)
theorem wrap_sub (s a : Nat) (hs : s < 18446744073709551616) (ha : a < 18446744073709551616) : IntKind.u64.wrap ((s : Int) - (a : Int)) = (((s + (18446744073709551616 - a)) % 18446744073709551616 : Nat) : Int) := by
  have h : IntKind.u64.wrap ((s : Int) - (a : Int)) = ((s : Int) - (a : Int)) % 18446744073709551616 := rfl
  rw [h]
  omega
theorem wrap_small (d n : Nat) (h : d < n) (hn : (n : Int) ≤ 64) : wrap64 (d : Int) = (d : Int) ∧ IntKind.i64.wrap (d : Int) = (d : Int) := by
  have h2 : (d : Int) ≤ 64 := by omega
  exact ⟨by unfold wrap64; omega, IntWalk.i64_in _ ⟨by omega, by omega⟩⟩
end Go.Proofs.Ytgcgnpinhlmmjaa.Hand

/- What a call leaves as it was: all blocks but those of S and what is new since. No program. -/
import Derived.Below
import Derived.Test.YtgcgnpinhlmmjaaWMore
namespace Go.Proofs.Ytgcgnpinhlmmjaa.Hand
open Go.RowKit Go.Proofs.YtgcgnpinhlmmjaaW.PrintWords

structure Far (S : Nat → Prop) (w w' : World) : Prop where
  os : w'.os = w.os
  tape : w'.tape = w.tape
  output : w'.output = w.output
  size : w.heap.size ≤ w'.heap.size
  block : ∀ k, k < w.heap.size → ¬ S k → w'.heap[k]? = w.heap[k]?

theorem Far.refl (S : Nat → Prop) (w : World) : Far S w w := ⟨rfl, rfl, rfl, Nat.le_refl _, fun _ _ _ => rfl⟩
theorem Far.trans {S S2 : Nat → Prop} {a b c : World} (h : Far S a b) (k : Far S2 b c) (hs : ∀ i, S2 i → S i ∨ a.heap.size ≤ i) : Far S a c :=
  ⟨k.os.trans h.os, k.tape.trans h.tape, k.output.trans h.output, Nat.le_trans h.size k.size,
    fun i hi hn => (k.block i (Nat.lt_of_lt_of_le hi h.size) (fun h2 => (hs i h2).elim hn (fun h3 => by omega))).trans (h.block i hi hn)⟩
theorem Far.then_ {S : Nat → Prop} {a b c : World} (h : Far S a b) (k : Far S b c) : Far S a c := h.trans k (fun _ h => .inl h)
theorem Far.mono {S S2 : Nat → Prop} {a b : World} (h : Far S a b) (hs : ∀ i, S i → S2 i) : Far S2 a b := ⟨h.os, h.tape, h.output, h.size, fun i hi hn => h.block i hi (fun h2 => hn (hs i h2))⟩
theorem Far.of_below {S : Nat → Prop} {a b : World} (h : Below a.heap.size a b) : Far S a b := ⟨h.os, h.tape, h.output, h.size, fun i hi _ => h.block i hi⟩
theorem Far.below {S : Nat → Prop} {a b : World} {B : Nat} (h : Far S a b) (hB : B ≤ a.heap.size) (hs : ∀ i, S i → B ≤ i) : Below B a b :=
  ⟨h.os, h.tape, h.output, h.size, fun i hi => h.block i (by omega) (fun h2 => by have := hs i h2; omega)⟩
theorem Far.drewN {S : Nat → Prop} {a b : World} (h : Far S a b) (n : Nat) : Far S a (b.drewN n) := h.then_ ((Drawn0.mk ⟨n, rfl⟩ : Drawn0 b (b.drewN n)).below |> Far.of_below)
theorem Far.drew {S : Nat → Prop} {a b : World} (h : Far S a b) : Far S a b.drew := ⟨h.os, h.tape, h.output, h.size, h.block⟩
theorem Far.drawn {S : Nat → Prop} {a b c : World} (h : Far S a b) (k : Drawn0 b c) : Far S a c := h.then_ (Far.of_below k.below)
theorem Far.alloc {S : Nat → Prop} {a b : World} (h : Far S a b) (o : Obj) : Far S a (b.alloc o) := h.then_ (Far.of_below (Below.alloc (Below.refl _ _) (Nat.le_refl _) o))
theorem Far.setCell {S : Nat → Prop} {a b : World} (h : Far S a b) {p : Addr} (hp : S p.block ∨ a.heap.size ≤ p.block) (u : Value) : Far S a (b.setCell p u) :=
  h.trans (S2 := fun i => i = p.block) ⟨rfl, rfl, rfl, by simp [World.setCell], fun k _ hn => Below.heap_setCell _ _ _ _ hn⟩ (fun i hi => by rw [hi]; exact hp)
theorem Far.set1 {g : Nat} {a b : World} (h : Far (fun x => x = g) a b) (o : Nat) (u : Value) : Far (fun x => x = g) a (b.setCell ⟨g, o, none⟩ u) := h.setCell (.inl rfl) u
theorem Far.setS {S : Nat → Prop} {g : Nat} {a b : World} (h : Far S a b) (hg : S g) (o : Nat) (u : Value) : Far S a (b.setCell ⟨g, o, none⟩ u) := h.setCell (.inl hg) u
theorem Far.setN {S : Nat → Prop} {g : Nat} {a b : World} (h : Far S a b) (hg : a.heap.size ≤ g) (o : Nat) (u : Value) : Far S a (b.setCell ⟨g, o, none⟩ u) := h.setCell (.inr hg) u
/-- A block that isn't of S stays. -/
theorem Far.blk {S : Nat → Prop} {a b : World} (h : Far S a b) {g : Nat} {o : Obj} (hb : a.heap[g]? = some o) (hn : ¬ S g) : b.heap[g]? = some o := (h.block g (Array.getElem?_eq_some_iff.1 hb).1 hn).trans hb
theorem blkd {w : World} {g n : Nat} {o : Obj} (hb : w.heap[g]? = some o) : (w.drewN n).heap[g]? = some o := by
  obtain ⟨m, h⟩ := (⟨⟨n, rfl⟩⟩ : Drawn0 w (w.drewN n)).out
  exact Far.blk (Far.drewN (Far.refl (fun _ => False) w) n) hb (fun h => h)

end Go.Proofs.Ytgcgnpinhlmmjaa.Hand

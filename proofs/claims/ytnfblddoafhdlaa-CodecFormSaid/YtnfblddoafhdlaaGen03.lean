import Derived.Test.YtnfblddoafhdlaaLaw03b
set_option maxRecDepth 100000
namespace Go.Proofs.Ytnfblddoafhdlaa
open Go.RowKit Go.Spec
def rdN (l : List UInt8) : Nat := match rd 0 l with | some (n, _) => n | none => 0
def rdR (l : List UInt8) : List UInt8 := match rd 0 l with | some (_, r) => r | none => []
def rdB (l : List UInt8) : Bool := (rd 0 l).isSome
theorem rdV_gen (l : List UInt8) : rdV (rd 0 l) = .tuple #[.int .u64 (rdN l), sv (rdR l), .bool (rdB l)] := by
  unfold rdN rdR rdB
  cases rd 0 l <;> rfl
theorem read_gen (l : List UInt8) (w : World) (hn : l.length ≤ 9223372036854775807) :
    Calls Try.prog 17 #[sv l] w fun e w' => e = .returned (.tuple #[.int .u64 (rdN l), sv (rdR l), .bool (rdB l)]) ∧ Below w.heap.size w w' :=
  (read_any l w hn).mono fun _ _ ⟨a, b⟩ => ⟨by rw [a, rdV_gen], b⟩
def cuT (l : List UInt8) : List UInt8 := match cutL l with | some (t, _) => t | none => []
def cuR (l : List UInt8) : List UInt8 := match cutL l with | some (_, r) => r | none => []
def cuB (l : List UInt8) : Bool := (cutL l).isSome
theorem cutV_gen (l : List UInt8) : cutV (cutL l) = .tuple #[sv (cuT l), sv (cuR l), .bool (cuB l)] := by
  unfold cuT cuR cuB
  cases cutL l <;> rfl
theorem cut_gen (l : List UInt8) (w : World) (hn : l.length ≤ 9223372036854775807) :
    Calls Try.prog 19 #[sv l] w fun e w' => e = .returned (.tuple #[sv (cuT l), sv (cuR l), .bool (cuB l)]) ∧ Below w.heap.size w w' :=
  (cut_any l w hn).mono fun _ _ ⟨a, b⟩ => ⟨by rw [a, cutV_gen], b⟩
def unT (l : List UInt8) : List UInt8 := if l.length < 32 then zero32 else l.take 32
def unR (l : List UInt8) : List UInt8 := if l.length < 32 then [] else l.drop 32
def unB (l : List UInt8) : Bool := decide (32 ≤ l.length)
theorem unT_len (l : List UInt8) : (unT l).length = 32 := by
  unfold unT
  split
  · rfl
  · simp; omega
theorem unhash_gen (l : List UInt8) (w : World) (hn : l.length ≤ 9223372036854775807) :
    Calls Try.prog 21 #[sv l] w fun e w' => e = .returned (.tuple #[hv (unT l), sv (unR l), .bool (unB l)]) ∧ Below w.heap.size w w' := by
  unfold unT unR unB
  by_cases h : l.length < 32
  · rw [if_pos h, if_pos h, show decide (32 ≤ l.length) = false by simp; omega]
    exact unhash_no l w h
  · rw [if_neg h, if_neg h, show decide (32 ≤ l.length) = true by simp; omega]
    exact unhash_yes l w (by omega) hn
def usX (l : List UInt8) : List (List UInt8) := match unhashesL l with | some (x, _) => x | none => []
def usR (l : List UInt8) : List UInt8 := match unhashesL l with | some (_, r) => r | none => []
def usB (l : List UInt8) : Bool := (unhashesL l).isSome
theorem us_32 (l : List UInt8) : ∀ x ∈ usX l, x.length = 32 := by
  unfold usX
  cases h : unhashesL l with
  | none => intro x hx; simp at hx
  | some y =>
    unfold unhashesL at h
    split at h
    · cases h
    · rename_i n r hr
      split at h
      · cases h
      · injection h with h
        subst h
        exact chunks_32 r n (by omega)
theorem us_le (l : List UInt8) : (usX l).length ≤ 64 := by
  unfold usX
  cases h : unhashesL l with
  | none => simp
  | some y =>
    unfold unhashesL at h
    split at h
    · cases h
    · split at h
      · cases h
      · injection h with h
        subst h
        simp only [chunks_length]; omega
theorem uh_gen {l : List UInt8} {e : Ending} {w w' : World} (h : UH l e w w') : ∃ v, e = .returned (.tuple #[v, sv (usR l), .bool (usB l)]) ∧ SlAt w' 32 v (hcs (usX l)) ∧ w'.ownsRow w.heap.size 27 32 v (usX l).length (hflat (usX l)) := by
  have h32 := us_32 l
  unfold usR usB usX at *
  cases hu : unhashesL l with
  | none =>
    refine ⟨.slice none 0 0, h.no hu, SlAt.nil _, World.ownsRow_nil _ _ _ _⟩
  | some y =>
    obtain ⟨hs, r⟩ := y
    rw [hu] at h32
    obtain ⟨v, hv, hown⟩ := h.yes hs r hu
    exact ⟨v, hv, SlAt.of_owns (size := 32) hown h32, hown⟩
/-- what Unhashes answers, whatever it is given -/
structure UG (l : List UInt8) (v : Value) (w w' : World) : Prop where
  at_ : SlAt w' 32 v (hcs (usX l))
  below : Below w.heap.size w w'
theorem unhashes_gen (l : List UInt8) (w : World) (hn : l.length ≤ 9223372036854775807) :
    Calls Try.prog 23 #[sv l] w fun e w' => ∃ a cap, e = .returned (.tuple #[.slice a (usX l).length cap, sv (usR l), .bool (usB l)]) ∧ UG l (.slice a (usX l).length cap) w w' :=
  (unhashes_any l w hn).mono fun _ _ h => by
    obtain ⟨v, hv, hat, _⟩ := uh_gen h
    obtain ⟨a, cap, rfl, _⟩ := hat.formH
    exact ⟨a, cap, hv, hat, h.below⟩
theorem rread_gen (l : List UInt8) (w : World) (hn : l.length ≤ 9223372036854775807) :
    Calls Try.prog 18 #[sv l] w fun e w' => e = .returned (.tuple #[.int .u64 (rdN l), sv (rdR l), .bool (rdB l)]) ∧ Below w.heap.size w w' :=
  (rread_any l w hn).mono fun _ _ ⟨a, b⟩ => ⟨by rw [a, rdV_gen], b⟩
theorem rcut_gen (l : List UInt8) (w : World) (hn : l.length ≤ 9223372036854775807) :
    Calls Try.prog 20 #[sv l] w fun e w' => e = .returned (.tuple #[sv (cuT l), sv (cuR l), .bool (cuB l)]) ∧ Below w.heap.size w w' :=
  (rcut_any l w hn).mono fun _ _ ⟨a, b⟩ => ⟨by rw [a, cutV_gen], b⟩
theorem runhash_gen (l : List UInt8) (w : World) (hn : l.length ≤ 9223372036854775807) :
    Calls Try.prog 22 #[sv l] w fun e w' => e = .returned (.tuple #[hv (unT l), sv (unR l), .bool (unB l)]) ∧ Below w.heap.size w w' := by
  unfold unT unR unB
  by_cases h : l.length < 32
  · rw [if_pos h, if_pos h, show decide (32 ≤ l.length) = false by simp; omega]
    exact runhash_no l w h
  · rw [if_neg h, if_neg h, show decide (32 ≤ l.length) = true by simp; omega]
    exact runhash_yes l w (by omega) hn
theorem runhashes_gen (l : List UInt8) (w : World) (hn : l.length ≤ 9223372036854775807) :
    Calls Try.prog 24 #[sv l] w fun e w' => ∃ a cap, e = .returned (.tuple #[.slice a (usX l).length cap, sv (usR l), .bool (usB l)]) ∧ UG l (.slice a (usX l).length cap) w w' :=
  (runhashes_any l w hn).mono fun _ _ h => by
    obtain ⟨v, hv, hat, _⟩ := uh_gen h
    obtain ⟨a, cap, rfl, _⟩ := hat.formH
    exact ⟨a, cap, hv, hat, h.below⟩
end Go.Proofs.Ytnfblddoafhdlaa

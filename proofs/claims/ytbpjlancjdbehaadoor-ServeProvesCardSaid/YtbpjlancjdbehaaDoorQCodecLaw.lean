/- What is put is read, and what is read was put: numbers as bytes, in plain Lean. -/
import Derived.Test.YtbpjlancjdbehaaDoorQBase
import Derived.Test.YtbpjlancjdbehaaDoorQShaLaid
import Derived.Test.YtbpjlancjdbehaaDoorQShaSum
import Derived.Test.YtbpjlancjdbehaaDoorQTreeHash
import Derived.Test.YtbpjlancjdbehaaDoorProg
import Derived.Lib.Builder
import Derived.Lib.UnsafeStr
set_option maxRecDepth 100000
namespace Go.Spec
def rd (n : Nat) : List UInt8 → Option (Nat × List UInt8)
  | [] => none
  | c :: r => if n = 0 ∧ c.toNat = 128 ∨ 144115188075855872 ≤ n then none else
      if c.toNat < 128 then some (n * 128 + c.toNat % 128, r) else rd (n * 128 + c.toNat % 128) r
theorem hib_nat (n : Nat) : (hib n).toNat = n % 128 + 128 := by unfold hib; rw [UInt8.toNat_ofNat_of_lt' (by simp [UInt8.size]; omega)]
theorem lob_nat (n : Nat) : (lob n).toNat = n % 128 := by unfold lob; rw [UInt8.toNat_ofNat_of_lt' (by simp [UInt8.size]; omega)]
theorem hib_eq (m : Nat) (c : UInt8) (h : 128 ≤ c.toNat) : hib (m * 128 + c.toNat % 128) = c := by
  apply UInt8.toNat_inj.1
  have := c.toNat_lt
  rw [hib_nat]; omega
theorem lob_eq (m : Nat) (c : UInt8) (h : c.toNat < 128) : lob (m * 128 + c.toNat % 128) = c := by
  apply UInt8.toNat_inj.1
  rw [lob_nat]; omega
theorem rd_form : ∀ (l : List UInt8) (m n : Nat) (r : List UInt8), rd m l = some (n, r) → hiN m ++ l = numL n ++ r
  | [], m, n, r, h => by simp [rd] at h
  | c :: l, m, n, r, h => by
    rw [rd] at h
    split at h
    · cases h
    · rename_i h1
      split at h
      · rename_i h2
        injection h with h; injection h with h3 h4
        subst h3; subst h4
        rw [numL, show (m * 128 + c.toNat % 128) / 128 = m by omega, lob_eq m c h2]
        simp
      · rename_i h2
        have ih := rd_form l _ n r h
        rw [← ih]
        have hc := c.toNat_lt
        by_cases h0 : m * 128 + c.toNat % 128 = 0
        · exfalso; omega
        · rw [hiN_pos (m * 128 + c.toNat % 128) (by omega), show (m * 128 + c.toNat % 128) / 128 = m by omega, hib_eq m c (by omega)]
          simp
theorem rd_hi : ∀ (f m : Nat), m ≤ f → m < 18446744073709551616 → ∀ s, rd 0 (hiN m ++ s) = rd m s
  | 0, m, h, _, s => by
    have : m = 0 := by omega
    subst this; simp [hiN_zero]
  | f + 1, m, h, hm, s => by
    by_cases h0 : m = 0
    · subst h0; simp [hiN_zero]
    · rw [hiN_pos m (by omega), List.append_assoc, rd_hi f (m / 128) (by omega) (by omega)]
      simp only [List.singleton_append]
      rw [rd, if_neg (by rw [hib_nat]; omega), if_neg (by rw [hib_nat]; omega)]
      congr 1
      rw [hib_nat]; omega
theorem rd_num (n : Nat) (hn : n < 18446744073709551616) (r : List UInt8) : rd 0 (numL n ++ r) = some (n, r) := by
  rw [numL, List.append_assoc, rd_hi _ (n / 128) (Nat.le_refl _) (by omega)]
  simp only [List.singleton_append]
  rw [rd, if_neg (by rw [lob_nat]; omega), if_pos (by rw [lob_nat]; omega)]
  rw [lob_nat]
  congr 2
  omega
theorem rd_some : ∀ (l : List UInt8) (m n : Nat) (r : List UInt8), m < 18446744073709551616 → rd m l = some (n, r) → n < 18446744073709551616 ∧ r.length < l.length
  | [], m, n, r, _, h => by simp [rd] at h
  | c :: l, m, n, r, hm, h => by
    rw [rd] at h
    split at h
    · cases h
    · rename_i h1
      split at h
      · injection h with h; injection h with h2 h3
        subst h2; subst h3
        exact ⟨by omega, by simp⟩
      · have := rd_some l _ n r (by omega) h
        exact ⟨this.1, by simp; omega⟩
theorem rd_iff (l : List UInt8) (n : Nat) (r : List UInt8) : rd 0 l = some (n, r) ↔ n < 18446744073709551616 ∧ l = numL n ++ r := by
  constructor
  · intro h
    exact ⟨(rd_some l 0 n r (by omega) h).1, by simpa [hiN_zero] using rd_form l 0 n r h⟩
  · rintro ⟨h, rfl⟩
    exact rd_num n h r
theorem hiN_big : ∀ (f m : Nat), m ≤ f → ∀ c ∈ hiN m, 128 ≤ c.toNat
  | 0, m, h, c, hc => by
    have : m = 0 := by omega
    subst this; simp [hiN_zero] at hc
  | f + 1, m, h, c, hc => by
    by_cases h0 : m = 0
    · subst h0; simp [hiN_zero] at hc
    · rw [hiN_pos m (by omega)] at hc
      simp only [List.mem_append, List.mem_singleton] at hc
      rcases hc with hc | rfl
      · exact hiN_big f (m / 128) (by omega) c hc
      · rw [hib_nat]; omega
/-- the value of bytes, seven bits each -/
def val (l : List UInt8) : Nat := l.foldl (fun n c => n * 128 + c.toNat % 128) 0
theorem val_snoc (l : List UInt8) (c : UInt8) : val (l ++ [c]) = val l * 128 + c.toNat % 128 := by simp [val]
theorem val_hi : ∀ (f m : Nat), m ≤ f → val (hiN m) = m
  | 0, m, h => by
    have : m = 0 := by omega
    subst this; rfl
  | f + 1, m, h => by
    by_cases h0 : m = 0
    · subst h0; rfl
    · rw [hiN_pos m (by omega), val_snoc, val_hi f (m / 128) (by omega), hib_nat]; omega
theorem val_num (n : Nat) : val (numL n) = n := by
  rw [numL, val_snoc, val_hi _ (n / 128) (Nat.le_refl _), lob_nat]; omega
/-- k bytes of 128 or more ahead: what is read has more than k bytes -/
theorem rd_long (l : List UInt8) (n : Nat) (r : List UInt8) (k : Nat) (h : rd 0 l = some (n, r)) (hk : ∀ j (hj : j < l.length), j < k → 128 ≤ l[j].toNat) (hkl : k ≤ l.length) : k < (numL n).length ∧ k < l.length ∧ k ≤ 9 := by
  obtain ⟨h1, h2⟩ := (rd_iff l n r).1 h
  have hlen : (numL n).length = (hiN (n / 128)).length + 1 := by simp [numL]
  have h9 := numL_len n h1
  have hl : l.length = (numL n).length + r.length := by rw [h2]; simp
  have : k ≤ (hiN (n / 128)).length := by
    rcases Nat.lt_or_ge (hiN (n / 128)).length k with hgt | hle
    · exfalso
      have := hk (hiN (n / 128)).length (by omega) hgt
      have he : l[(hiN (n / 128)).length]? = some (lob n) := by rw [h2, numL]; simp
      rw [List.getElem?_eq_getElem (by omega)] at he
      injection he with he
      rw [he, lob_nat] at this
      omega
    · exact hle
  omega
/-- .. and where the next byte is below 128: just these -/
theorem rd_stop (l : List UInt8) (n : Nat) (r : List UInt8) (k : Nat) (h : rd 0 l = some (n, r)) (hk : ∀ j (hj : j < l.length), j < k → 128 ≤ l[j].toNat) (hkl : k < l.length) (hs : l[k].toNat < 128) : numL n = l.take (k + 1) := by
  obtain ⟨h1, h2⟩ := (rd_iff l n r).1 h
  have h3 := rd_long l n r k h hk (by omega)
  have hlen : (numL n).length = (hiN (n / 128)).length + 1 := by simp [numL]
  have hke : k = (hiN (n / 128)).length := by
    rcases Nat.lt_or_ge k (hiN (n / 128)).length with hlt | hge
    · exfalso
      have he : l[k]? = some ((hiN (n / 128))[k]) := by rw [h2, numL, List.append_assoc, List.getElem?_append_left hlt, List.getElem?_eq_getElem hlt]
      rw [List.getElem?_eq_getElem hkl] at he
      injection he with he
      have := hiN_big _ (n / 128) (Nat.le_refl _) ((hiN (n / 128))[k]) (List.getElem_mem hlt)
      rw [← he] at this
      omega
    · omega
  conv => rhs; rw [h2]
  rw [List.take_append_of_le_length (by omega), List.take_of_length_le (by omega)]
end Go.Spec
namespace Go.Proofs.YtbpjlancjdbehaaDoor
open Go.RowKit Go.Spec
theorem or128 (m : Nat) : bits BinOp.or IntKind.u8 ((m : Int) % 128) 128 = ((m % 128 + 128 : Nat) : Int) := by
  have h : ∀ k : Fin 128, bits BinOp.or IntKind.u8 ((k.val : Nat) : Int) 128 = ((k.val + 128 : Nat) : Int) := by decide +kernel
  exact h ⟨m % 128, by omega⟩
set_option maxHeartbeats 400000 in
theorem num_any (n : Nat) (w : World) (hn : n < 18446744073709551616) :
    Calls Tryd.prog 80 #[.int .u64 n] w fun e w' => e = .returned (sv (numL n)) ∧ Below w.heap.size w w' := by
  obtain ⟨i0, hi, hz0, hz1, hz2⟩ := info_parts Tryd.infoU8
  have hlen := numL_len n hn
  have Hn := hid hn; have Hlen := hid hlen
  clear hlen
  go_enter Tryd.func80, Tryd.ntmps80
  go_wp2
  go_loopw [0, 3] (fun x b wr => ∃ (m : Nat) (l : List UInt8), x = .int .u64 m ∧ m < 18446744073709551616 ∧ wr.ownsRow w.heap.size 5 1 b l.length (l.map bcell) ∧ hiN m ++ l = numL n ∧ 0 < l.length ∧ Below w.heap.size w wr)
    (fun x _ _ => (intOf x).toNat)
  case atStart =>
    refine ⟨n / 128, [lob n], by simp, by omega, ?_, rfl, by simp, (Below.refl _ _).alloc (Nat.le_refl _) _⟩
    have := ownsRow_lit (w := w) (base := w.heap.size) (e := 5) (bcell (lob n)) (Nat.le_refl _)
    simpa [lob_cell] using this
  case round =>
    obtain ⟨m, l, rfl, hm, hown, he, hl, hb⟩ := hrel
    have hl2 : l.length ≤ 10 := by have hlen := Hlen.out; rw [← he] at hlen; simp at hlen; omega
    have He := hid he; clear he
    by_cases h0 : m = 0
    · subst h0
      have hcv := run_string_own (P := Tryd.prog) (w := wr) 108 9 5 Tryd.underlying108 Tryd.underlying5 Tryd.underlying9 hown
      go_wp2
      go_ret
      exact ⟨by rw [← He.out]; simp [hiN_zero], hb⟩
    · have h1 : 0 < m := by omega
      obtain ⟨g, cap, rfl, hg1, hg2, hg3, hg4⟩ := ownsRow_some hown hl
      clear h0
      have hor := or128 m
      go_wp2_with (at_builtin; refine wpList_append_own _ rfl _ _ 108 rfl w.heap.size 5 i0 (.int .u8 0) 1 1 Tryd.underlying108 hi hz0 hz1 hz2 rfl (by decide) (.slice (some ⟨wr.heap.size, 0, none⟩) 1 1) 1 [.int .u8 ((m : Int) % 128 + 128)] rfl ?c0 ⟨g, 0, none⟩ l.length cap (l.map bcell) rfl ?c1 ?c2 ?c3 ?c4 ?c5 ?c6 ?_)
      case c0 =>
        exact ownsRow_lit (w := wr) (base := w.heap.size) (e := 5) _ hb.size
      case c1 => simp
      case c2 => exact cell_row_alloc hg2 hg4
      case c3 => exact bcell_one l
      case c4 => unfold maxLen; omega
      case c5 => omega
      case c6 => have := hb.size; simp; omega
      intro v' w1 hown' hgrow _
      go_wp2
      go_roundw
      case rel =>
        refine ⟨m / 128, hib m :: l, by simp, by omega, ?_, ?_, by simp, ?_⟩
        · simp only [List.map_cons, List.length_cons, hib_cell]
          rw [Nat.add_comm]
          simpa using hown'
        · rw [← He.out, hiN_pos m h1]; simp
        · exact (hb.alloc hb.size _).grown hgrow (by have := hb.size; simp; omega) (by intro k hk; simp [Value.ownBlock] at hk; have := hb.size; omega)
      case measure => simp [intOf]; omega
theorem and127 (c : UInt8) : bits .and .u8 (c.toNat : Int) 127 = (c.toNat : Int) % 128 := by
  have := bits_mask .u8 8 (by decide) wraps_u8 7 (by decide) (c.toNat : Int) (by omega) (by have := c.toNat_lt; omega)
  simpa using this
theorem or_low (m c : Nat) (hm : m < 144115188075855872) : bits .or .u64 (IntKind.u64.wrap ((m : Int) * 128)) ((c : Int) % 128) = (m : Int) * 128 + (c : Int) % 128 := by
  rw [IntKind.wrap_u64, show ((m : Int) * 128) % 18446744073709551616 = ((m * 128 : Nat) : Int) by omega, show ((c : Int) % 128) = ((c % 128 : Nat) : Int) by omega, u64_or_nat _ _ (by omega) (by omega)]
  have h := Nat.two_pow_add_eq_or_of_lt (i := 7) (b := c % 128) (by omega) m
  rw [Nat.mul_comm m 128, ← h]; omega
theorem or_low0 (c : Nat) : bits .or .u64 0 ((c : Int) % 128) = (c : Int) % 128 := by
  have := or_low 0 c (by omega)
  rw [IntKind.wrap_u64] at this
  simpa using this
def rdV : Option (Nat × List UInt8) → Value
  | some (n, r) => .tuple #[.int .u64 n, sv r, .bool true]
  | none => .tuple #[.int .u64 0, sv [], .bool false]
set_option maxRecDepth 100000 in
set_option maxHeartbeats 400000 in
theorem read_any (l : List UInt8) (w : World) (hn : l.length ≤ 9223372036854775807) :
    Calls Tryd.prog 97 #[sv l] w fun e w' => e = .returned (rdV (rd 0 l)) ∧ Below w.heap.size w w' := by
  go_enter Tryd.func97, Tryd.ntmps97
  go_wp2
  go_loop [2, 9] (fun x i => ∃ (m k : Nat), x = .int .u64 m ∧ i = .int .i64 k ∧ m < 18446744073709551616 ∧ k ≤ l.length ∧ rd m (l.drop k) = rd 0 l)
    (fun _ i => l.length - (intOf i).toNat)
  case atStart => exact ⟨0, 0, rfl, rfl, by omega, by omega, rfl⟩
  case round =>
    obtain ⟨m, k, rfl, rfl, hm, hk, he⟩ := hrel
    have He := hid he; clear he
    by_cases hlt : k < l.length
    · go_upto_region 5 with (fail)
      obtain ⟨c, hc⟩ : ∃ c : UInt8, l[k] = c := ⟨_, rfl⟩
      have hc256 : c.toNat < 256 := c.toNat_lt
      have hdr : List.drop k l = c :: List.drop (k + 1) l := by rw [← hc]; exact List.drop_eq_getElem_cons hlt
      simp only [hc]
      rw [hdr] at He
      have Hc := hid hc; clear hc hdr
      by_cases hstop : m = 0 ∧ c.toNat = 128 ∨ 144115188075855872 ≤ m
      · have Hfin := hid (show rd 0 l = none by rw [← He.out, rd, if_pos hstop])
        clear He
        by_cases h57 : 144115188075855872 ≤ m
        · have h57b : decide (144115188075855872 ≤ (m : Int)) = true := by simp; omega
          have hm0 : ((m : Int) == 0) = false := by simp; omega
          clear hstop hm h57
          go_wp2
          go_ret3
          exact ⟨by rw [Hfin.out]; rfl, Below.refl _ _⟩
        · have h57b : decide (144115188075855872 ≤ (m : Int)) = false := by simp; omega
          have hm0 : m = 0 := by omega
          have hc0 : c.toNat = 128 := by omega
          clear hstop hm h57
          subst hm0
          go_wp2
          go_ret3
          exact ⟨by rw [Hfin.out]; rfl, Below.refl _ _⟩
      · have h57b : decide (144115188075855872 ≤ (m : Int)) = false := by simp; omega
        have h57 : m < 144115188075855872 := by omega
        have hns : ¬ (m = 0 ∧ c.toNat = 128) := fun h => hstop (.inl h)
        have hand := and127 c
        have hor := or_low m c.toNat h57
        have hor0 := or_low0 c.toNat
        by_cases hc1 : c.toNat < 128
        · have Hfin := hid (show rd 0 l = some (m * 128 + c.toNat % 128, l.drop (k + 1)) by rw [← He.out, rd, if_neg hstop, if_pos hc1])
          have hq2 : ((c.toNat : Int) == 128) = false := by simp; omega
          clear hns hstop He
          have H57 := hid h57; clear h57 hm
          rcases Nat.eq_zero_or_pos m with rfl | hm0'
          · go_upto_region 8 with (fail)
            go_quiet (fail)
            go_wp2
            go_ret3
            exact ⟨by rw [Hfin.out]; simp [rdV], below_drewN (Below.refl _ _) _⟩
          · have hm0 : ((m : Int) == 0) = false := by simp; omega
            go_upto_region 8 with (fail)
            go_quiet (fail)
            go_wp2
            go_ret3
            exact ⟨by rw [Hfin.out]; simp [rdV], below_drewN (Below.refl _ _) _⟩
        · have He2 := hid (show rd (m * 128 + c.toNat % 128) (l.drop (k + 1)) = rd 0 l by rw [← He.out]; conv => rhs; rw [rd, if_neg hstop, if_neg hc1])
          have H57 := hid h57; clear h57 hm
          clear hstop He
          rcases Nat.eq_zero_or_pos m with rfl | hm0'
          · have hq2 : ((c.toNat : Int) == 128) = false := by simp; omega
            clear hns
            go_wp2
            go_round
            case rel => exact ⟨c.toNat % 128, k + 1, by simp, by go_num, by omega, by omega, by have := He2.out; simpa using this⟩
            case measure => simp [intOf]; omega
          · have hm0 : ((m : Int) == 0) = false := by simp; omega
            clear hns
            go_wp2
            go_round
            case rel => exact ⟨m * 128 + c.toNat % 128, k + 1, by simp, by go_num, by have := H57.out; omega, by omega, He2.out⟩
            case measure => simp [intOf]; omega
    · have Hfin := hid (show rd 0 l = none by rw [← He.out, List.drop_eq_nil_of_le (by omega)]; rfl)
      clear hm He
      go_wp2
      go_ret3
      exact ⟨by rw [Hfin.out]; rfl, Below.refl _ _⟩

set_option maxHeartbeats 400000 in
theorem text_any (l : List UInt8) (w : World) (hn : l.length ≤ 1000000000) :
    Calls Tryd.prog 99 #[sv l] w fun e w' => e = .returned (sv (numL l.length ++ l)) ∧ Below w.heap.size w w' := by
  have hlen := numL_len l.length (by omega)
  go_enter Tryd.func99, Tryd.ntmps99
  go_wp2_with (go_at_call 80; refine (num_any _ _ (by omega)).mono ?_; rintro e w1 ⟨rfl, hb⟩)
  go_ret
  exact ⟨rfl, hb⟩
end Go.Proofs.YtbpjlancjdbehaaDoor
namespace Go.Proofs.YtbpjlancjdbehaaDoor
open Go.RowKit Go.Spec
end Go.Proofs.YtbpjlancjdbehaaDoor
/- strings.Builder: a builder that the call itself made: WriteString, WriteByte, String. The builder's block is g; its bytes lie in the row r. -/
namespace Go.Spec
open Go.RowKit
/-- all blocks but those of S are as they were -/
structure Fr (S : Nat → Prop) (w w' : World) : Prop where
  os : w'.os = w.os
  tape : w'.tape = w.tape
  output : w'.output = w.output
  size : w.heap.size ≤ w'.heap.size
  block : ∀ k, k < w.heap.size → ¬ S k → w'.heap[k]? = w.heap[k]?
theorem Fr.below {S : Nat → Prop} {w w' : World} (h : Fr S w w') {B : Nat} (hB : B ≤ w.heap.size) (hS : ∀ k, S k → B ≤ k) : Below B w w' :=
  ⟨h.os, h.tape, h.output, h.size, fun k hk => h.block k (by omega) (fun hs => by have := hS k hs; omega)⟩
theorem Fr.of_below {w w' : World} (h : Below w.heap.size w w') (S : Nat → Prop) : Fr S w w' := ⟨h.os, h.tape, h.output, h.size, fun k hk _ => h.block k hk⟩
theorem Fr.mono {S S' : Nat → Prop} {w w' : World} (h : Fr S w w') (hS : ∀ k, k < w.heap.size → S k → S' k) : Fr S' w w' := ⟨h.os, h.tape, h.output, h.size, fun k hk hn => h.block k hk (fun hs => hn (hS k hk hs))⟩
theorem Fr.trans {S : Nat → Prop} {a b c : World} (h : Fr S a b) (k : Fr S b c) : Fr S a c :=
  ⟨k.os.trans h.os, k.tape.trans h.tape, k.output.trans h.output, Nat.le_trans h.size k.size, fun i hi hn => (k.block i (Nat.lt_of_lt_of_le hi h.size) hn).trans (h.block i hi hn)⟩
def IsB (T e g : Nat) (r : Option Nat) (l : List UInt8) (w : World) : Prop :=
  ∃ p v, w.heap[g]? = some (.cells #[p, v] T (0, 0)) ∧ (p = .pointer none ∨ p = .pointer (some ⟨g, 0, none⟩)) ∧ w.ownsRow (g + 1) e 1 v l.length (l.map bcell) ∧ v.ownBlock = r
theorem IsB.row {T e g : Nat} {r : Option Nat} {l : List UInt8} {w : World} (h : IsB T e g r l w) : ∀ k, r = some k → g < k ∧ k < w.heap.size := by
  obtain ⟨p, v, _, _, hown, hr⟩ := h
  intro k hk
  have := hown.lt k (hr.trans hk)
  omega
theorem IsB.lt {T e g : Nat} {r : Option Nat} {l : List UInt8} {w : World} (h : IsB T e g r l w) : g < w.heap.size := by
  obtain ⟨p, v, hb, _⟩ := h
  exact (Array.getElem?_eq_some_iff.1 hb).1
theorem IsB.fresh (T e : Nat) (w : World) : IsB T e w.heap.size none [] (w.alloc (.cells #[.pointer none, .slice none 0 0] T)) :=
  ⟨_, _, heap_alloc_new w _, .inl rfl, World.ownsRow_nil _ _ _ _, rfl⟩
theorem IsB.kept {T e g : Nat} {r : Option Nat} {l : List UInt8} {w w' : World} (h : IsB T e g r l w) {S : Nat → Prop} (hf : Fr S w w') (hg : ¬ S g) (hr : ∀ k, r = some k → ¬ S k) : IsB T e g r l w' := by
  have hlt := h.lt
  have hrow := h.row
  obtain ⟨p, v, hb, hp, hown, hv⟩ := h
  refine ⟨p, v, (hf.block g hlt hg).trans hb, hp, ⟨hown.1, ?_⟩, hv⟩
  rcases hown.2 with hn | ⟨k, cap, cur, rfl, hbk, hgk, rest⟩
  · exact .inl hn
  · refine .inr ⟨k, cap, cur, rfl, hbk, ?_, rest⟩
    have hk : r = some k := by rw [← hv]; rfl
    rw [hf.block k (hrow k hk).2 (hr k hk)]; exact hgk
theorem IsB.below {T e g : Nat} {r : Option Nat} {l : List UInt8} {w w' : World} (h : IsB T e g r l w) (hf : Below w.heap.size w w') : IsB T e g r l w' :=
  h.kept (Fr.of_below hf (fun _ => False)) (fun h => h) (fun _ _ h => h)
theorem Fr.drew {S : Nat → Prop} {a w : World} (h : Fr S a w) : Fr S a w.drew := ⟨h.os, h.tape, h.output, h.size, h.block⟩
theorem Fr.refl (S : Nat → Prop) (w : World) : Fr S w w := ⟨rfl, rfl, rfl, Nat.le_refl _, fun _ _ _ => rfl⟩
theorem Fr.freeze {S : Nat → Prop} {a w : World} (h : Fr S a w) {p : Addr} (hp : S p.block) (n : Nat) : Fr S a (w.freeze p n) := by
  unfold World.freeze
  split
  · exact h
  · refine ⟨h.os, h.tape, h.output, by simp; exact h.size, fun k hk hn => ?_⟩
    rw [← h.block k hk hn]
    simp only [Array.getElem?_modify]
    rw [if_neg (fun (e : p.block = k) => hn (e ▸ hp))]
theorem ownsRow_fr {base e size n : Nat} {v : Value} {xs : List Value} {w w' : World} (hown : w.ownsRow base e size v n xs) {S : Nat → Prop} (hf : Fr S w w') (hr : ∀ k, v.ownBlock = some k → ¬ S k) : w'.ownsRow base e size v n xs := by
  have hlt := hown.lt
  refine ⟨hown.1, ?_⟩
  rcases hown.2 with hn | ⟨k, cap, cur, rfl, hbk, hgk, rest⟩
  · exact .inl hn
  · exact .inr ⟨k, cap, cur, rfl, hbk, by rw [hf.block k (hlt k rfl).2 (hr k rfl)]; exact hgk, rest⟩
theorem Fr.setCell (w : World) (g j : Nat) (v : Value) : Fr (fun k => k = g) w (w.setCell ⟨g, j, none⟩ v) :=
  ⟨rfl, rfl, rfl, by simp [World.setCell], fun k _ hk => Below.heap_setCell _ _ _ _ hk⟩
/-- what a method that writes leaves -/
structure BW (T e g : Nat) (r : Option Nat) (l : List UInt8) (w w' : World) : Prop where
  ex : ∃ r', IsB T e g r' l w' ∧ (∀ k, r' = some k → r = some k ∨ w.heap.size ≤ k)
  fr : Fr (fun k => k = g ∨ r = some k) w w'
theorem BW.below {T e g : Nat} {r : Option Nat} {l l0 : List UInt8} {w w' : World} (h0 : IsB T e g r l0 w) (h : BW T e g r l w w') : Below g w w' :=
  h.fr.below (Nat.le_of_lt h0.lt) (fun k hk => by
    rcases hk with rfl | hk
    · exact Nat.le_refl _
    · exact Nat.le_of_lt (h0.row k hk).1)
end Go.Spec
namespace Go.Proofs.YtbpjlancjdbehaaDoor
open Go.RowKit Go.Spec
theorem Tryd.sizeBuilder : (Tryd.prog.info? 144).map (·.size) = some 2 := by kernel_rfl
theorem Tryd.liesBuilder : liesAt Tryd.prog Tryd.prog.depth 144 (2 / Tryd.prog.cellsOf 144) 0 144 1 = true := by kernel_rfl
theorem Tryd.cellsU8 : Tryd.prog.cellsOf 5 = 1 := by kernel_rfl
theorem Tryd.infoU8b : (Tryd.prog.info? 5).map (fun i => (i.zero, i.size, i.bytes)) = some (some (.int .u8 0), 1, 1) := by kernel_rfl
abbrev Bld (g : Nat) (r : Option Nat) (l : List UInt8) (w : World) : Prop := IsB 144 5 g r l w
abbrev BldW (g : Nat) (r : Option Nat) (l : List UInt8) (w w' : World) : Prop := BW 144 5 g r l w w'
set_option maxHeartbeats 1000000 in
set_option maxRecDepth 100000 in
theorem copyCheck_used (b : Nat) (w : World) (h0 : w.cell? ⟨b, 0, none⟩ = some (.pointer (some ⟨b, 0, none⟩))) :
    Calls Tryd.prog 112 #[.pointer (some ⟨b, 0, none⟩)] w fun e w' => e = .returned (.tuple #[]) ∧ w' = w := by
  obtain ⟨j, hj, _⟩ := Option.map_eq_some_iff.1 Tryd.sizeBuilder
  go_enter Tryd.func112, Tryd.ntmps112
  go_wp2
  rw [Lib.run_neq_ptr_same w _ Tryd.underlying142 hj]
  go_wp2
  go_end0
  exact ⟨rfl, rfl⟩
set_option maxHeartbeats 1000000 in
set_option maxRecDepth 100000 in
theorem copyCheck_fresh (b : Nat) (w : World) (h0 : w.cell? ⟨b, 0, none⟩ = some (.pointer none)) (hsh : w.shape? b = some (144, 2)) (hfz : w.frozen? ⟨b, 0, none⟩ = false) :
    Calls Tryd.prog 112 #[.pointer (some ⟨b, 0, none⟩)] w fun e w' => e = .returned (.tuple #[]) ∧ w' = w.setCell ⟨b, 0, none⟩ (.pointer (some ⟨b, 0, none⟩)) := by
  obtain ⟨j, hj, hjs⟩ := Option.map_eq_some_iff.1 Tryd.sizeBuilder
  go_enter Tryd.func112, Tryd.ntmps112
  go_wp2
  rw [Lib.run_to_unsafe w ⟨b, 0, none⟩ Tryd.underlying142 Tryd.underlying161 hj (by rw [hjs]; decide) hsh (Nat.zero_lt_succ 1)]
  simp only [Result.andThen]
  rw [Oper.upon_value]
  go_wp2
  rw [run_callFunc_extern Tryd.func119 (by kernel_rfl) (by kernel_rfl) (by kernel_rfl) (e := Extern.AbiNoEscape.same) (by kernel_rfl)]
  rw [Lib.run_noEscape]
  simp only [Result.andThen]
  rw [Oper.upon_value]
  go_wp2
  rw [Lib.run_from_unsafe w ⟨b, 0, none⟩ Tryd.underlying161 Tryd.underlying142 hj hsh Tryd.liesBuilder]
  simp only [Result.andThen]
  rw [Oper.upon_value]
  go_wp2
  go_end0
  exact ⟨rfl, rfl⟩
/-- behind copyCheck: the block written out -/
structure CC (b : Nat) (v : Value) (w w' : World) : Prop where
  hb : w'.heap[b]? = some (.cells #[.pointer (some ⟨b, 0, none⟩), v] 144 (0, 0))
  fr : Fr (fun k => k = b) w w'
  size : w'.heap.size = w.heap.size
theorem copyCheck_any (b : Nat) (p v : Value) (w : World) (hb : w.heap[b]? = some (.cells #[p, v] 144 (0, 0))) (hp : p = .pointer none ∨ p = .pointer (some ⟨b, 0, none⟩)) :
    Calls Tryd.prog 112 #[.pointer (some ⟨b, 0, none⟩)] w fun e w' => e = .returned (.tuple #[]) ∧ CC b v w w' := by
  rcases hp with rfl | rfl
  · refine (copyCheck_fresh b w (by rw [Lib.cell_of_heap hb]; rfl) (by simp [World.shape?, hb]) (Lib.frozen_of_heap hb 0)).mono ?_
    rintro e w' ⟨rfl, rfl⟩
    refine ⟨rfl, ?_, ⟨rfl, rfl, rfl, by simp [World.setCell], fun k _ hk => Below.heap_setCell _ _ _ _ hk⟩, by simp [World.setCell]⟩
    simp [World.setCell, Array.getElem?_modify, hb]
  · refine (copyCheck_used b w (by rw [Lib.cell_of_heap hb]; rfl)).mono ?_
    rintro e w' ⟨rfl, rfl⟩
    exact ⟨rfl, hb, ⟨rfl, rfl, rfl, Nat.le_refl _, fun _ _ _ => rfl⟩, rfl⟩
set_option maxHeartbeats 1000000 in
set_option maxRecDepth 100000 in
theorem ws_any (g : Nat) (r : Option Nat) (l s : List UInt8) (w : World) (h : Bld g r l w) (hlen : l.length + s.length ≤ 140737488355328) :
    Calls Tryd.prog 100 #[.pointer (some ⟨g, 0, none⟩), sv s] w fun e w' => e = .returned (.tuple #[.int .i64 s.length, .nilIface]) ∧ BldW g r (l ++ s) w w' := by
  obtain ⟨i0, hi, hz0, hz1, hz2⟩ := info_parts Tryd.infoU8b
  obtain ⟨p, v, hb, hp, hown, rfl⟩ := h
  have hglt : g < w.heap.size := (Array.getElem?_eq_some_iff.1 hb).1
  have hgr : ∀ k, v.ownBlock = some k → k ≠ g := fun k hk => by have := hown.lt k hk; omega
  have Hb := hid hb; clear hb
  go_enter Tryd.func100, Tryd.ntmps100
  go_wp2_with (first
    | (go_at_call 112; refine (copyCheck_any g p v _ Hb.out hp).mono ?_; rintro e w1 ⟨rfl, hcc⟩; have c1 : w1.cell? ⟨g, 1, none⟩ = some v := by (rw [Lib.cell_of_heap hcc.hb]; rfl))
    | (at_builtin; refine wpList_app_str rfl _ _ 108 9 rfl (g + 1) 5 i0 Tryd.underlying108 Tryd.underlying9 hi hz0 hz1 hz2 v l s rfl ?c1 rfl hlen ?c2 ?_))
  case c1 => exact ownsRow_fr hown hcc.fr (fun k hk => hgr k hk)
  case c2 => rw [hcc.size]; omega
  intro v' w2 hown0 hgrow hat
  have hown' : w2.ownsRow (g + 1) 5 1 v' (l ++ s).length ((l ++ s).map bcell) := by simpa using hown0
  clear hown0
  obtain ⟨a', cap', rfl, hcap⟩ := ownsRow_form hown'
  have hb2 : w2.heap[g]? = some (.cells #[.pointer (some ⟨g, 0, none⟩), v] 144 (0, 0)) :=
    (hgrow.block g (by rw [hcc.size]; omega) (fun h => hgr g h.symm rfl)).trans hcc.hb
  have c2 : w2.cell? ⟨g, 1, none⟩ = some v := by rw [Lib.cell_of_heap hb2]; rfl
  have f2 : w2.frozen? ⟨g, 1, none⟩ = false := Lib.frozen_of_heap hb2 1
  have Hat := hid hat
  have Hb2 := hid hb2
  clear hat hb2 hgr hcap
  go_wp2
  go_ret2
  have hne : ∀ k, (Value.slice a' (l ++ s).length cap').ownBlock = some k → k ≠ g := fun k hk => by have := hown'.lt k hk; omega
  refine ⟨rfl, ⟨⟨_, ⟨_, _, ?_, .inr rfl, ownsRow_fr hown' (Fr.setCell _ _ _ _) hne, rfl⟩, ?_⟩, ?_⟩⟩
  · simp [World.setCell, Array.getElem?_modify, Hb2.out]
  · intro k hk
    rcases Hat.out k hk with h | h
    · exact .inl h
    · exact .inr (by rw [hcc.size] at h; omega)
  · have h12 : Fr (fun k => k = g ∨ v.ownBlock = some k) w1 w2 := ⟨hgrow.os, hgrow.tape, hgrow.output, hgrow.size, fun k hk hn => hgrow.block k hk (fun h => hn (.inr h.symm))⟩
    exact ((hcc.fr.mono (fun k _ hk => .inl hk)).trans h12).trans ((Fr.setCell _ _ _ _).mono (fun k _ hk => .inl hk))
set_option maxHeartbeats 2000000 in
set_option maxRecDepth 100000 in
theorem bstring_any (g : Nat) (r : Option Nat) (l : List UInt8) (w : World) (h : Bld g r l w) (h0 : l ≠ []) :
    Calls Tryd.prog 101 #[.pointer (some ⟨g, 0, none⟩)] w fun e w' => e = .returned (sv l) ∧ Fr (fun k => r = some k) w w' := by
  obtain ⟨p, v, hb, hp, hown, hr⟩ := h
  have hl0 : l.length ≠ 0 := by simpa using h0
  have hown0 := hown
  obtain ⟨g', cap, cur, rfl, hbg, hg, hnc, hcm, hcs, htake⟩ : ∃ g' cap cur, v = .slice (some ⟨g', 0, none⟩) l.length cap ∧ g + 1 ≤ g' ∧ w.heap[g']? = some (.cells cur 5 (0, 0)) ∧ l.length ≤ cap ∧ cap ≤ maxLen ∧ cur.size = cap * 1 ∧ cur.toList.take (l.length * 1) = l.map bcell := by
    rcases hown.2 with ⟨_, hz⟩ | ⟨g', cap, cur, hv, r⟩
    · exact absurd hz hl0
    · exact ⟨g', cap, cur, hv, r⟩
  have c1 : w.drew.cell? ⟨g, 1, none⟩ = some (.slice (some ⟨g', 0, none⟩) l.length cap) := by
    have : w.drew.heap[g]? = some (.cells #[p, .slice (some ⟨g', 0, none⟩) l.length cap] 144 (0, 0)) := hb
    rw [Lib.cell_of_heap this]; rfl
  have hSD : (Builtin.unsafeSliceData_ #[108] 156 #[.slice (some ⟨g', 0, none⟩) l.length cap]).run Tryd.prog w.drew = .ok (.pointer (some ⟨g', 0, none⟩)) w.drew :=
    Lib.run_unsafeSliceData_row _ _ _ _ _ _ (by omega)
  have hUS : (Builtin.unsafeString_ #[156, 3] 9 #[.pointer (some ⟨g', 0, none⟩), .int .i64 l.length]).run Tryd.prog w.drew = .ok (.string (mkS l)) (w.drew.freeze ⟨g', 0, none⟩ l.length) := by
    refine Lib.run_unsafeString_row w.drew 156 3 9 5 Tryd.underlying156 Tryd.cellsU8 g' cur.size (by have hg' : w.drew.heap[g']? = some (.cells cur 5 (0, 0)) := hg; simp [World.shape?, hg']) l h0 (by omega) (by unfold maxLen at hcm; omega) ?_
    intro j x hx
    have := hown.cells (g := g') rfl j (.int .u8 x.toNat) (by simp [hx, bcell])
    exact this
  clear htake hcs hcm hg hb hown hown0
  go_enter Tryd.func101, Tryd.ntmps101
  go_wp2
  go_region
  all_goals (go_wp2; go_ret; exact ⟨rfl, by subst hr; exact Fr.freeze (S := fun k => (Value.slice (some (⟨g', 0, none⟩ : Addr)) l.length cap).ownBlock = some k) (Fr.refl _ w).drew (p := ⟨g', 0, none⟩) rfl _⟩)
end Go.Proofs.YtbpjlancjdbehaaDoor
namespace Go.Proofs.YtbpjlancjdbehaaDoor
open Go.RowKit Go.Spec
def hashesL (hs : List (List UInt8)) : List UInt8 := if 64 < hs.length then [] else numL hs.length ++ hs.flatten
set_option maxHeartbeats 1000000 in
theorem hashes_any (v : Value) (hs : List (List UInt8)) (w : World) (hv : SlAt w 32 v (hcs hs)) (hn : hs.length ≤ 9223372036854775807) :
    Calls Tryd.prog 83 #[v] w fun e w' => e = .returned (sv (hashesL hs)) ∧ Below w.heap.size w w' := by
  obtain ⟨a, cap, rfl, hcap⟩ := hv.form
  rw [hcs_length] at *
  by_cases h64 : 64 < hs.length
  · have Hfin := hid (show hashesL hs = [] by rw [hashesL, if_pos h64])
    go_enter Tryd.func83, Tryd.ntmps83
    go_wp2
    go_ret
    exact ⟨by rw [Hfin.out]; rfl, Below.refl _ _⟩
  · have Hfin := hid (show hashesL hs = numL hs.length ++ hs.flatten by rw [hashesL, if_neg h64])
    have hnl := numL_len hs.length (by omega)
    have h64' : hs.length ≤ 64 := by omega
    have hd : decide (64 < (hs.length : Int)) = false := by simp; omega
    clear h64 hn
    go_enter Tryd.func83, Tryd.ntmps83
    go_wp2_with (first
      | (go_at_call 80; refine (num_any _ _ (by omega)).mono ?_; rintro e w1 ⟨rfl, hb1⟩; have HB := hid ((IsB.fresh 144 5 w).below hb1))
      | (go_at_call 100; refine (ws_any w.heap.size none [] (numL hs.length) _ HB.out (by simp; omega)).mono ?_; rintro e w2 ⟨rfl, hw2⟩))
    have hb2 : Below w.heap.size w w2 := (((Below.refl _ _).alloc (Nat.le_refl _) _).trans (hb1.mono (by simp))).trans (hw2.below HB.out)
    obtain ⟨r, hB, _⟩ := hw2.ex
    simp only [List.nil_append] at hB
    have HB2 := hid hB; clear hB hw2 HB hb1
    have Hv := hid hv; clear hv
    clear hnl
    go_loopw [16] (fun i wr => ∃ (k : Nat) (r : Option Nat), i = .int .i64 k ∧ k ≤ hs.length ∧ Bld w.heap.size r (numL hs.length ++ (hs.take k).flatten) wr ∧ Below w.heap.size w wr)
      (fun i _ => hs.length - (intOf i).toNat)
    case atStart => exact ⟨0, _, rfl, by omega, by simpa using HB2.out, hb2⟩
    case round =>
      obtain ⟨k, r', rfl, hk, hB, hb⟩ := hrel
      have HB3 := hid hB; clear hB
      by_cases hlt : k < hs.length
      · obtain ⟨b, o, rfl, hbl, hcl, hcell⟩ := (Hv.out.below hb (Nat.le_refl _)).at (i := k) (cs := hs[k].map bcell) (by simp [hcs, hlt])
        have htk := hid (show (hs.take (k + 1)).flatten = (hs.take k).flatten ++ hs[k] by rw [List.take_succ_eq_append_getElem hlt, List.flatten_append, List.flatten_singleton])
        have hfl := flatten_len (hs := hs.take k) (fun x hx => Hv.out.len32 x (List.mem_of_mem_take hx))
        generalize hs[k] = h at *
        have hcl' : h.length = 32 := by simpa using hcl
        have Hsz := hid (show (Tryd.prog.info? 29).map (·.size) = some h.length by rw [hcl']; exact Tryd.sizeHash)
        have Hcl := hid hcl'
        have Hlen := hid (show (numL hs.length ++ (hs.take k).flatten).length + h.length ≤ 140737488355328 by
          have := numL_len hs.length (by omega)
          rw [List.length_append, hfl, hcl', List.length_take]; omega)
        clear hfl
        have Hcell := hid hcell
        clear hcell hcl hcl'
        go_wp2_with (first
          | (refine wpList_load_hc rfl 29 _ rfl ⟨b, o + k * 32, none⟩ rfl h _ Hcell.out Tryd.underlying29 rfl Hsz.out ?_)
          | (refine wpList_store_new rfl 29 _ _ rfl rfl h rfl _ 29 (by rw [Hcl.out]; rfl) Hsz.out ?_)
          | (refine wpList_load_new rfl 29 _ rfl rfl h 29 _ Tryd.underlying29 rfl Hsz.out ?_)
          | (go_at_call 65; refine (hash_any h _ Hcl.out).mono ?_; rintro e w3 ⟨rfl, hb3⟩; have HB4 := hid ((HB3.out.below ((Below.refl _ _).alloc (Nat.le_refl _) _)).below hb3))
          | (go_at_call 100; refine (ws_any _ _ _ h _ HB4.out Hlen.out).mono ?_; rintro e w4 ⟨rfl, hw4⟩))
        go_roundw
        case rel =>
          obtain ⟨r2, hr2, _⟩ := hw4.ex
          refine ⟨k + 1, r2, by go_num, by omega, ?_, ?_⟩
          · rw [htk.out, ← List.append_assoc]; exact hr2
          · exact ((hb.trans (((Below.refl _ wr).alloc (Nat.le_refl _) _).mono hb.size)).trans (hb3.mono (by have := hb.size; simp; omega))).trans (hw4.below HB4.out)
        case measure => simp [intOf]; omega
      · have hke : k = hs.length := by omega
        subst hke
        have Hne := hid (show numL hs.length ++ (hs.take hs.length).flatten ≠ [] by have := numL_pos hs.length; intro h; rw [List.append_eq_nil_iff] at h; rw [h.1] at this; simp at this)
        go_wp2_with (go_at_call 101; refine (bstring_any _ _ _ _ HB3.out Hne.out).mono ?_; rintro e w4 ⟨rfl, hw4⟩)
        go_ret
        exact ⟨by rw [Hfin.out]; rfl, hb.trans (hw4.below hb.size (fun j hj => by have := HB3.out.row j hj; omega))⟩
end Go.Proofs.YtbpjlancjdbehaaDoor

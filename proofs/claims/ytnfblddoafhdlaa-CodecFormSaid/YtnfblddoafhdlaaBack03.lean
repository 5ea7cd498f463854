import Derived.Test.YtnfblddoafhdlaaRead03
set_option maxRecDepth 100000
namespace Go.Spec
open Go.RowKit
theorem chunks_flat : ∀ (hs : List (List UInt8)) (s : List UInt8), (∀ x ∈ hs, x.length = 32) → ∀ n, n ≤ hs.length → Go.Proofs.Ytnfblddoafhdlaa.chunks (hs.flatten ++ s) n = hs.take n
  | hs, s, h, 0, _ => rfl
  | hs, s, h, n + 1, hn => by
    have htk : hs.take (n + 1) = hs.take n ++ [hs[n]] := List.take_succ_eq_append_getElem (by omega)
    rw [Go.Proofs.Ytnfblddoafhdlaa.chunks, chunks_flat hs s h n (by omega), htk]
    congr 2
    have hsplit : hs = hs.take n ++ (hs[n] :: hs.drop (n + 1)) := by rw [← List.drop_eq_getElem_cons (by omega)]; simp
    have hfl : hs.flatten = (hs.take n).flatten ++ (hs[n] ++ (hs.drop (n + 1)).flatten) := by conv => lhs; rw [hsplit]; rw [List.flatten_append, List.flatten_cons]
    have hlen : (hs.take n).flatten.length = n * 32 := by rw [flatten_len (fun x hx => h x (List.mem_of_mem_take hx)), List.length_take]; omega
    have h32 : (hs[n]).length = 32 := h _ (List.getElem_mem (by omega))
    rw [hfl]
    simp only [List.append_assoc]
    rw [List.drop_append_of_le_length (by omega), List.drop_eq_nil_of_le (by omega), List.nil_append, List.take_append_of_le_length (by omega), List.take_of_length_le (by omega)]
end Go.Spec
namespace Go.Proofs.Ytnfblddoafhdlaa
open Go.RowKit Go.Spec
theorem cutL_text (s r : List UInt8) (h : s.length < 18446744073709551616) : cutL (numL s.length ++ s ++ r) = some (s, r) := by
  rw [cutL, List.append_assoc, rd_num _ h]
  simp
theorem unhashesL_hashes (hs : List (List UInt8)) (s : List UInt8) (h : ∀ x ∈ hs, x.length = 32) (hl : hs.length ≤ 64) : unhashesL (hashesL hs ++ s) = some (hs, s) := by
  have hfl := flatten_len h
  rw [unhashesL, hashesL, if_neg (by omega), List.append_assoc, rd_num _ (by omega)]
  simp only
  rw [if_neg (by rw [List.length_append, hfl]; omega), chunks_flat hs s h _ (Nat.le_refl _), List.take_length]
  congr 2
  rw [List.drop_append_of_le_length (by omega), List.drop_eq_nil_of_le (by omega), List.nil_append]
theorem cut_yes (t s r : List UInt8) (w : World) (ht : t = numL s.length ++ s ++ r) (h : s.length < 18446744073709551616) (hn : t.length ≤ 9223372036854775807) :
    Calls Try.prog 19 #[sv t] w fun e w' => e = .returned (.tuple #[sv s, sv r, .bool true]) ∧ Below w.heap.size w w' :=
  (cut_any t w hn).mono fun _ _ ⟨a, b⟩ => ⟨by rw [a, ht, cutL_text s r h]; rfl, b⟩
theorem unhashes_yes (t : List UInt8) (hs : List (List UInt8)) (s : List UInt8) (w : World) (ht : t = hashesL hs ++ s) (h : ∀ x ∈ hs, x.length = 32) (hl : hs.length ≤ 64) (hn : t.length ≤ 9223372036854775807) :
    Calls Try.prog 23 #[sv t] w fun e w' => ∃ a cap, e = .returned (.tuple #[.slice a hs.length cap, sv s, .bool true]) ∧ SlAt w' 32 (.slice a hs.length cap) (hcs hs) ∧ Below w.heap.size w w' :=
  (unhashes_gen t w hn).mono fun _ _ ⟨a, cap, he, hg⟩ => by
    have h1 : unhashesL t = some (hs, s) := by rw [ht, unhashesL_hashes hs s h hl]
    have h2 : usX t = hs := by rw [usX, h1]
    have h3 : usR t = s := by rw [usR, h1]
    have h4 : usB t = true := by rw [usB, h1]; rfl
    have hat := hg.at_
    rw [h2] at hat he
    rw [h3, h4] at he
    exact ⟨a, cap, he, hat, hg.below⟩
set_option maxHeartbeats 2000000 in
theorem back_law (n : Nat) (l : List UInt8) (v : Value) (hs : List (List UInt8)) (w : World) (hn : n < 18446744073709551616) (hl : l.length ≤ 9223372036854775807) (hv : SlAt w 32 v (hcs hs)) (hh : hs.length ≤ 9223372036854775807) :
    Calls Try.prog 5 #[.int .u64 n, sv l, v] w fun e w' => e = .returned (.bool true) ∧ Below w.heap.size w w' := by
  have HB := Below.refl w.heap.size w
  obtain ⟨a, cap, rfl, hcap⟩ := hv.formH
  have Hn := hid hn
  by_cases h1 : 500 < l.length
  · have hd : decide ((500 : Int) < (l.length : Int)) = true := by simp; omega
    clear h1 hn
    go_enter Try.func5, Try.ntmps5
    go_wp2_with (go_at_call 8; refine (coded_any _).mono ?_; rintro e w1 ⟨rfl, hb⟩; replace HB := bch HB hb; clear hb)
    go_ret
    exact ⟨rfl, HB⟩
  · have hd : decide ((500 : Int) < (l.length : Int)) = false := by simp; omega
    by_cases h2 : 64 < hs.length
    · have hd2 : decide ((64 : Int) < (hs.length : Int)) = true := by simp; omega
      clear h1 h2 hn
      go_enter Try.func5, Try.ntmps5
      go_wp2_with (go_at_call 8; refine (coded_any _).mono ?_; rintro e w1 ⟨rfl, hb⟩; replace HB := bch HB hb; clear hb)
      go_ret
      exact ⟨rfl, HB⟩
    · have hd2 : decide ((64 : Int) < (hs.length : Int)) = false := by simp; omega
      have h1' : l.length ≤ 500 := by omega
      have h2' : hs.length ≤ 64 := by omega
      clear h1 h2 hl hh
      have H32 := hid hv.len32
      have hfl := flatten_len hv.len32
      have hnl := numL_len n hn
      have hnl2 := numL_len l.length (by omega)
      have hnl3 := numL_len hs.length (by omega)
      have hhl : (hashesL hs).length ≤ 2100 := by rw [hashesL, if_neg (by omega), List.length_append, hfl]; omega
      have Hrd := hid (show ∀ r, rd 0 (numL n ++ r) = some (n, r) from rd_num n hn)
      clear hn hfl hnl3
      generalize hH : hashesL hs = HS at *
      have HH := hid hH
      clear hH
      generalize hN : numL n = NN at *
      have HNN := hid hN
      clear hN
      generalize hL : numL l.length = LL at *
      have HLL := hid hL
      clear hL
      go_enter Try.func5, Try.ntmps5
      have Hv := hid hv
      clear hv
      have hsame : (hs == hs) = true := by simp
      go_wp2_with (first
        | (go_at_call 11; refine (num_any n _ Hn.out).mono ?_; rw [HNN.out]; rintro e w1 ⟨rfl, hb⟩; replace HB := bch HB hb; clear hb)
        | (go_at_call 13; refine (text_any l _ (by omega)).mono ?_; rw [HLL.out]; rintro e w2 ⟨rfl, hb⟩; replace HB := bch HB hb; clear hb)
        | (go_at_call 15; refine (hashes_any _ hs _ (Hv.out.below HB (Nat.le_refl _)) (by omega)).mono ?_; rw [HH.out]; rintro e w3 ⟨rfl, hb⟩; replace HB := bch HB hb; clear hb)
        | (go_at_call 17; refine (read_yes _ _ (by simp; omega) (Hrd.out _)).mono ?_; rintro e w4 ⟨rfl, hb⟩; replace HB := bch HB hb; clear hb)
        | (go_at_call 19; refine (cut_yes _ l (HS ++ l) _ (by rw [HLL.out]; simp) (by omega) (by simp; omega)).mono ?_; rintro e w5 ⟨rfl, hb⟩; replace HB := bch HB hb; clear hb)
        | (go_at_call 23; refine (unhashes_yes _ hs l _ (by rw [HH.out]) H32.out h2' (by simp; omega)).mono ?_; rintro e w6 ⟨a1, cap1, rfl, HU1, hb⟩; replace HB := bch HB hb; clear hb)
        | (go_at_call 25; refine (same_any _ _ hs hs _ HU1 (Hv.out.below HB (Nat.le_refl _)) (by omega) (by omega)).mono ?_; rw [hsame]; rintro e w9 ⟨rfl, hb⟩; replace HB := bch HB hb; clear hb)
        | (go_at_call 8; refine (coded_any _).mono ?_; rintro e w1 ⟨rfl, hb⟩; replace HB := bch HB hb; clear hb))
      go_ret
      exact ⟨rfl, HB⟩
end Go.Proofs.Ytnfblddoafhdlaa

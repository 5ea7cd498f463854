/- steps as lines, plain: what a line is, and that it is read back -/
import Derived.Test.YtdefipnmjfnpeaaDoorQScrNum

set_option maxRecDepth 100000
namespace Go.Proofs.YtdefipnmjfnpeaaDoor
open Go.RowKit Go.Spec Go.Lib
structure Stp where
  kind : Int
  a : Int
  b : Int
  c : Int
  text : List UInt8
def wordT : Nat → List UInt8
  | 1 => [97, 112, 112, 101, 110, 100]
  | 2 => [112, 117, 98, 108, 105, 115, 104]
  | 3 => [116, 105, 99, 107]
  | 4 => [100, 101, 108, 105, 118, 101, 114]
  | 5 => [100, 114, 111, 112]
  | 6 => [100, 111, 117, 98, 108, 101]
  | 7 => [116, 117, 114, 110]
  | 8 => [102, 108, 105, 112]
  | 9 => [105, 110, 106, 101, 99, 116]
  | 10 => [99, 114, 97, 115, 104]
  | 11 => [102, 97, 105, 108]
  | 12 => [111, 112, 101, 110]
  | 13 => [97, 115, 107]
  | _ => []
def numsT : Nat → Nat
  | 3 => 2
  | 4 => 1
  | 5 => 1
  | 6 => 1
  | 7 => 2
  | 8 => 3
  | 9 => 2
  | 10 => 2
  | 11 => 3
  | 12 => 1
  | 13 => 1
  | _ => 0
def textT : Nat → Bool
  | 1 => true
  | 9 => true
  | 13 => true
  | _ => false
def hexd (n : Nat) : UInt8 := if n < 10 then UInt8.ofNat (48 + n) else UInt8.ofNat (87 + n)
def hexP (t : List UInt8) : List UInt8 := (t.map fun b => [hexd (b.toNat / 16), hexd (b.toNat % 16)]).flatten
def hexW (t : List UInt8) : List UInt8 := 120 :: hexP t
def numsL (x : Stp) : List Int := [x.a, x.b, x.c].take (numsT x.kind.toNat)
def argsL (x : Stp) : List (List UInt8) := (numsL x).map itoa ++ (if textT x.kind.toNat then [hexW x.text] else [])
def isK (k : Int) : Prop := 1 ≤ k ∧ k ≤ 13
instance (k : Int) : Decidable (isK k) := by unfold isK; exact inferInstance
def tailL (ws : List (List UInt8)) : List UInt8 := (ws.map fun w => 32 :: w).flatten
def bodyL (x : Stp) : List UInt8 := wordT x.kind.toNat ++ tailL (argsL x)
def lineL (x : Stp) : List UInt8 := if isK x.kind then bodyL x ++ [10] else []
/-- as the document reads -/
def splitF (ws : List (List UInt8)) (c : UInt8) : List (List UInt8) := if c = 32 then ws ++ [[]] else ws.dropLast ++ [ws.getLastD [] ++ [c]]
def splitL (s : List UInt8) : List (List UInt8) := s.foldl splitF [[]]
def readP : List UInt8 → List UInt8
  | a :: b :: r => UInt8.ofNat (valF a * 16 + valF b) :: readP r
  | _ => []
def readW (w : List UInt8) : List UInt8 := readP (w.drop 1)
def kindF (w : List UInt8) : Nat → Nat
  | 0 => 0
  | k + 1 => if wordT (14 - (k + 1)) = w then 14 - (k + 1) else kindF w k
def kindL (w : List UInt8) : Nat := kindF w 13
def at4 (ws : List (List UInt8)) (i : Nat) : List UInt8 := ws.getD i []
def parseL (s : List UInt8) : Stp :=
  let ws := splitL s
  let k := kindL (at4 ws 0)
  let n := numsT k
  ⟨k, if 0 < n then numL (at4 ws 1) else 0, if 1 < n then numL (at4 ws 2) else 0, if 2 < n then numL (at4 ws 3) else 0, if textT k then readW (at4 ws (1 + n)) else []⟩
/-- a step of which what its kind does not use is nothing -/
structure Stp.Ok (x : Stp) : Prop where
  kind : isK x.kind
  a : -9223372036854775808 ≤ x.a ∧ x.a ≤ 9223372036854775807
  b : -9223372036854775808 ≤ x.b ∧ x.b ≤ 9223372036854775807
  c : -9223372036854775808 ≤ x.c ∧ x.c ≤ 9223372036854775807
  n0 : ¬ 0 < numsT x.kind.toNat → x.a = 0
  n1 : ¬ 1 < numsT x.kind.toNat → x.b = 0
  n2 : ¬ 2 < numsT x.kind.toNat → x.c = 0
  nt : textT x.kind.toNat = false → x.text = []
def normL (x : Stp) : Stp := ⟨x.kind, if 0 < numsT x.kind.toNat then x.a else 0, if 1 < numsT x.kind.toNat then x.b else 0, if 2 < numsT x.kind.toNat then x.c else 0, if textT x.kind.toNat then x.text else []⟩
theorem kinds (k : Int) (h : isK k) : k = 1 ∨ k = 2 ∨ k = 3 ∨ k = 4 ∨ k = 5 ∨ k = 6 ∨ k = 7 ∨ k = 8 ∨ k = 9 ∨ k = 10 ∨ k = 11 ∨ k = 12 ∨ k = 13 := by unfold isK at h; omega
theorem line_norm (x : Stp) : lineL (normL x) = lineL x := by
  obtain ⟨k, a, b, c, t⟩ := x
  unfold lineL
  by_cases h : isK k
  · rw [if_pos (show isK (normL ⟨k, a, b, c, t⟩).kind from h), if_pos (show isK (Stp.mk k a b c t).kind from h)]
    rcases kinds k h with rfl | rfl | rfl | rfl | rfl | rfl | rfl | rfl | rfl | rfl | rfl | rfl | rfl <;> rfl
  · rw [if_neg (show ¬ isK (normL ⟨k, a, b, c, t⟩).kind from h), if_neg (show ¬ isK (Stp.mk k a b c t).kind from h)]
theorem norm_ok (x : Stp) (h : isK x.kind) (ha : -9223372036854775808 ≤ x.a ∧ x.a ≤ 9223372036854775807) (hb : -9223372036854775808 ≤ x.b ∧ x.b ≤ 9223372036854775807) (hc : -9223372036854775808 ≤ x.c ∧ x.c ≤ 9223372036854775807) : (normL x).Ok := by
  refine ⟨h, ?_, ?_, ?_, ?_, ?_, ?_, ?_⟩
  · show _ ≤ (if _ then x.a else 0) ∧ (if _ then x.a else 0) ≤ _; split <;> omega
  · show _ ≤ (if _ then x.b else 0) ∧ (if _ then x.b else 0) ≤ _; split <;> omega
  · show _ ≤ (if _ then x.c else 0) ∧ (if _ then x.c else 0) ≤ _; split <;> omega
  · intro g; show (if _ then x.a else 0) = 0; exact if_neg g
  · intro g; show (if _ then x.b else 0) = 0; exact if_neg g
  · intro g; show (if _ then x.c else 0) = 0; exact if_neg g
  · intro g
    show (if textT x.kind.toNat = true then x.text else []) = []
    rw [if_neg (by rw [show textT x.kind.toNat = false from g]; simp)]
/-- words -/
theorem split_word (w : List UInt8) (h : ∀ c ∈ w, c ≠ 32) (ws : List (List UInt8)) (u : List UInt8) : w.foldl splitF (ws ++ [u]) = ws ++ [u ++ w] := by
  induction w generalizing u with
  | nil => simp
  | cons c r ih =>
    rw [List.foldl_cons]
    have e : splitF (ws ++ [u]) c = ws ++ [u ++ [c]] := by
      unfold splitF
      rw [if_neg (h c (List.mem_cons_self ..)), List.dropLast_concat, List.getLastD_concat]
    rw [e, ih (fun x hx => h x (List.mem_cons_of_mem _ hx))]
    simp
theorem split_tail (vs : List (List UInt8)) (h : ∀ w ∈ vs, ∀ c ∈ w, c ≠ 32) (ws : List (List UInt8)) : (tailL vs).foldl splitF ws = ws ++ vs := by
  induction vs generalizing ws with
  | nil => simp [tailL]
  | cons w r ih =>
    have e : tailL (w :: r) = 32 :: (w ++ tailL r) := by simp [tailL]
    rw [e, List.foldl_cons, List.foldl_append]
    have e1 : splitF ws 32 = ws ++ [[]] := if_pos rfl
    rw [e1, split_word w (h w (List.mem_cons_self ..)), ih (fun x hx => h x (List.mem_cons_of_mem _ hx))]
    simp
theorem split_join (w : List UInt8) (vs : List (List UInt8)) (hw : ∀ c ∈ w, c ≠ 32) (h : ∀ w ∈ vs, ∀ c ∈ w, c ≠ 32) : splitL (w ++ tailL vs) = w :: vs := by
  unfold splitL
  rw [List.foldl_append]
  have := split_word w hw [] []
  simp only [List.nil_append] at this
  rw [this, split_tail vs h]
  rfl
theorem hexd_nat (n : Nat) (h : n < 16) : (hexd n).toNat = if n < 10 then 48 + n else 87 + n := by
  unfold hexd
  split <;> (rw [UInt8.toNat_ofNat']; omega)
theorem valF_hexd (n : Nat) (h : n < 16) : valF (hexd n) = n := by
  have e := hexd_nat n h
  unfold valF
  by_cases g : n < 10
  · rw [if_pos g] at e; rw [e, if_pos (by omega)]; omega
  · rw [if_neg g] at e; rw [e, if_neg (by omega), if_pos (by omega)]; omega
theorem read_hexP (t : List UInt8) : readP (hexP t) = t := by
  induction t with
  | nil => rfl
  | cons b r ih =>
    have hb : b.toNat < 256 := UInt8.toNat_lt b
    have e : hexP (b :: r) = hexd (b.toNat / 16) :: hexd (b.toNat % 16) :: hexP r := by simp [hexP]
    rw [e, readP, ih, valF_hexd _ (by omega), valF_hexd _ (by omega)]
    congr 1
    apply UInt8.toNat.inj
    rw [UInt8.toNat_ofNat']; omega
theorem read_hex (t : List UInt8) : readW (hexW t) = t := by
  unfold readW hexW
  rw [List.drop_one, List.tail_cons, read_hexP]
theorem hexP_mem (t : List UInt8) : ∀ c ∈ hexP t, (48 ≤ c.toNat ∧ c.toNat ≤ 57) ∨ (97 ≤ c.toNat ∧ c.toNat ≤ 102) := by
  intro c hc
  unfold hexP at hc
  obtain ⟨l, hl, hcl⟩ := List.mem_flatten.1 hc
  obtain ⟨b, _, rfl⟩ := List.mem_map.1 hl
  have hb : b.toNat < 256 := UInt8.toNat_lt b
  have key : ∀ n, n < 16 → (48 ≤ (hexd n).toNat ∧ (hexd n).toNat ≤ 57) ∨ (97 ≤ (hexd n).toNat ∧ (hexd n).toNat ≤ 102) := fun n hn => by
    rw [hexd_nat n hn]; split <;> omega
  simp only [List.mem_cons, List.not_mem_nil, or_false] at hcl
  rcases hcl with rfl | rfl
  · exact key _ (by omega)
  · exact key _ (by omega)
/-- a byte of a line: a small letter, a digit, a minus -/
def isC (c : UInt8) : Prop := 45 ≤ c.toNat ∧ c.toNat ≤ 122 ∧ ¬ (65 ≤ c.toNat ∧ c.toNat ≤ 90)
theorem args_mem (x : Stp) : ∀ w ∈ argsL x, ∀ c ∈ w, isC c := by
  intro w hw c hc
  unfold argsL at hw
  rcases List.mem_append.1 hw with h | h
  · obtain ⟨n, _, rfl⟩ := List.mem_map.1 h
    rcases itoa_mem n c hc with h | rfl
    · unfold isC; omega
    · unfold isC; decide
  · split at h
    · rw [List.mem_singleton] at h
      subst h
      unfold hexW at hc
      rcases List.mem_cons.1 hc with rfl | h
      · unfold isC; decide
      · rcases hexP_mem _ c h with h | h <;> unfold isC <;> omega
    · cases h
theorem word_mem (k : Int) (h : isK k) : ∀ c ∈ wordT k.toNat, isC c := by
  rcases kinds k h with rfl | rfl | rfl | rfl | rfl | rfl | rfl | rfl | rfl | rfl | rfl | rfl | rfl <;> (unfold isC; decide)
theorem isC_ne {c : UInt8} (h : isC c) : c ≠ 32 ∧ c ≠ 10 := by
  constructor <;> (rintro rfl; unfold isC at h; simp at h)
theorem kind_word (k : Int) (h : isK k) : kindL (wordT k.toNat) = k.toNat := by
  rcases kinds k h with rfl | rfl | rfl | rfl | rfl | rfl | rfl | rfl | rfl | rfl | rfl | rfl | rfl <;> decide
theorem split_body (x : Stp) (h : isK x.kind) : splitL (bodyL x) = wordT x.kind.toNat :: argsL x :=
  split_join _ _ (fun c hc => (isC_ne (word_mem _ h c hc)).1) (fun w hw c hc => (isC_ne (args_mem x w hw c hc)).1)
theorem parse_body (x : Stp) (h : x.Ok) : parseL (bodyL x) = x := by
  obtain ⟨k, a, b, c, t⟩ := x
  obtain ⟨hk, ⟨ha1, ha2⟩, ⟨hb1, hb2⟩, ⟨hc1, hc2⟩, n0, n1, n2, nt⟩ := h
  have e := split_body ⟨k, a, b, c, t⟩ hk
  have ek := kind_word k hk
  simp only at *
  unfold parseL
  simp only [e]
  have e0 : at4 (wordT k.toNat :: argsL ⟨k, a, b, c, t⟩) 0 = wordT k.toNat := rfl
  rw [e0, ek]
  rcases kinds k hk with rfl | rfl | rfl | rfl | rfl | rfl | rfl | rfl | rfl | rfl | rfl | rfl | rfl
  all_goals
    simp only [show ((1 : Int).toNat) = 1 from rfl, show ((2 : Int).toNat) = 2 from rfl, show ((3 : Int).toNat) = 3 from rfl, show ((4 : Int).toNat) = 4 from rfl, show ((5 : Int).toNat) = 5 from rfl, show ((6 : Int).toNat) = 6 from rfl, show ((7 : Int).toNat) = 7 from rfl, show ((8 : Int).toNat) = 8 from rfl, show ((9 : Int).toNat) = 9 from rfl, show ((10 : Int).toNat) = 10 from rfl, show ((11 : Int).toNat) = 11 from rfl, show ((12 : Int).toNat) = 12 from rfl, show ((13 : Int).toNat) = 13 from rfl] at *
    simp only [numsT, textT, argsL, numsL, at4, List.take, List.map, List.append, List.cons_append, List.nil_append, List.getD_cons_succ, List.getD_cons_zero] at *
    try have na := num_itoa a ha1 ha2
    try have nb := num_itoa b hb1 hb2
    try have nc := num_itoa c hc1 hc2
    try have rt := read_hex t
    simp_all
theorem parse_line (x : Stp) (h : x.Ok) (s : List UInt8) (hs : lineL x = s ++ [10]) : parseL s = x := by
  unfold lineL at hs
  rw [if_pos h.kind] at hs
  rw [← List.append_cancel_right hs, parse_body x h]
theorem line_no10 (x : Stp) : ∀ c ∈ bodyL x, isK x.kind → c ≠ 10 := by
  intro c hc hk
  unfold bodyL tailL at hc
  rcases List.mem_append.1 hc with h | h
  · exact (isC_ne (word_mem _ hk c h)).2
  · obtain ⟨l, hl, hcl⟩ := List.mem_flatten.1 h
    obtain ⟨w, hw, rfl⟩ := List.mem_map.1 hl
    rcases List.mem_cons.1 hcl with rfl | hcw
    · decide
    · exact (isC_ne (args_mem x w hw c hcw)).2
end Go.Proofs.YtdefipnmjfnpeaaDoor

/- GossipBack -/
import Derived.Test.YtjpnlnbpaecciaaGBackLaw
import Derived.Test.YtjpnlnbpaecciaaTalked
import Derived.Test.YtjpnlnbpaecciaaSame30
set_option maxRecDepth 100000
namespace Go.Proofs.Ytjpnlnbpaecciaa
open Go.RowKit Go.Spec
theorem gg_no (l : List UInt8) (w : World) (hl : l.length ≤ 1000000000) (h : getGL l = none) : Calls Try.prog 31 #[sv l] w fun e w' => e = .returned (.tuple #[.slice none 0 0, .int .i64 10]) ∧ Below w.heap.size w w' :=
  (gget_any l w hl).mono fun _ _ g => ⟨g.no h, g.below⟩
theorem gk_no (l : List UInt8) (w : World) (hl : l.length ≤ 1000000000) (h : getKL l = none) : Calls Try.prog 33 #[sv l] w fun e w' => e = .returned (.tuple #[.slice none 0 0, .int .i64 10]) ∧ Below w.heap.size w w' :=
  (gkn_any l w hl).mono fun _ _ g => ⟨g.no h, g.below⟩
theorem gg_yes (l : List UInt8) (ks : List SgK) (w : World) (hl : l.length ≤ 1000000000) (h : getGL l = some ks) : Calls Try.prog 31 #[sv l] w fun e w' => ∃ v ds, e = .returned (.tuple #[v, .int .i64 0]) ∧ SgsAt w' v ds ∧ ds.map Sg.k = ks ∧ Below w.heap.size w w' :=
  (gget_any l w hl).mono fun _ _ g => by
    obtain ⟨v, ds, h1, h2, h3⟩ := g.yes ks h
    exact ⟨v, ds, h1, h2, h3, g.below⟩
theorem gk_yes (l : List UInt8) (hs : List Hd) (w : World) (hl : l.length ≤ 1000000000) (h : getKL l = some hs) : Calls Try.prog 33 #[sv l] w fun e w' => ∃ v, e = .returned (.tuple #[v, .int .i64 0]) ∧ HdsAt w' v hs ∧ Below w.heap.size w w' :=
  (gkn_any l w hl).mono fun _ _ g => by
    obtain ⟨v, h1, h2⟩ := g.yes hs h
    exact ⟨v, h1, h2, g.below⟩
theorem k32_of {w : World} {ds : List Sg} (h : ∀ d ∈ ds, d.In w) : ∀ k ∈ ds.map Sg.k, K32 k := by
  intro k hk
  obtain ⟨d, hd, rfl⟩ := List.mem_map.1 hk
  exact ⟨(h d hd).r32, (h d hd).at_.len32⟩
/-- the facts of what is put of signed heads -/
structure GF (t : List UInt8) (ks : List SgK) (n m : Nat) : Prop where
  pos : 0 < t.length
  le : t.length ≤ 100000
  get : getGL t = some ks
  cut : getGL (t.take m) = none
  more : getGL (t ++ [0]) = none
  other : getKL t = none
  rem : (n : Int).tmod (t.length : Int) = (m : Int)
  lt : m < t.length
theorem GF.of {w : World} {ds : List Sg} {t : List UInt8} (h : ∀ d ∈ ds, d.In w) (ht : putGL ds = some t) (n : Nat) : GF t (ds.map Sg.k) n (n % t.length) := by
  obtain ⟨h1, h2, r, h3⟩ := putG_len h ht
  have hk := k32_of h
  have hp : putGK (ds.map Sg.k) = some t := by rw [← putGL_k]; exact ht
  have hlt := Nat.mod_lt n h1
  obtain ⟨c1, c2⟩ := take_cut hlt
  exact ⟨h1, h2, getGL_put _ _ hk hp, getGL_none_of hk hp c1 c2, getGL_none_longer hk hp (by simp), by rw [h3]; exact getKL_of_G r, by rw [Int.tmod_eq_emod_of_nonneg (by omega)]; rfl, hlt⟩
structure KF (t : List UInt8) (hs : List Hd) (n m : Nat) : Prop where
  pos : 0 < t.length
  le : t.length ≤ 100000
  get : getKL t = some hs
  cut : getKL (t.take m) = none
  more : getKL (t ++ [0]) = none
  other : getGL t = none
  rem : (n : Int).tmod (t.length : Int) = (m : Int)
  lt : m < t.length
theorem KF.of {hs : List Hd} {t : List UInt8} (h : ∀ d ∈ hs, d.r.length = 32) (ht : putKL hs = some t) (n : Nat) : KF t hs n (n % t.length) := by
  obtain ⟨h1, h2, r, h3⟩ := putK_len h ht
  have hlt := Nat.mod_lt n h1
  obtain ⟨c1, c2⟩ := take_cut hlt
  exact ⟨h1, h2, getKL_put _ _ h ht, getKL_none_of h ht c1 c2, getKL_none_longer h ht (by simp), by rw [h3]; exact getGL_of_K r, by rw [Int.tmod_eq_emod_of_nonneg (by omega)]; rfl, hlt⟩
set_option maxHeartbeats 16000000 in
theorem gossipBack_law (v : Value) (rs : List Rg) (u : Value) (hs : List Hd) (n : Nat) (W : World) (hv : RgsAt W v rs) (hl : rs.length ≤ 9223372036854775807) (hu : HdsAt W u hs) (hul : hs.length ≤ 9223372036854775807) (hn : n < 65536) :
    Calls Try.prog 8 #[v, u, .int .u16 n] W fun e w' => e = .returned (.bool true) ∧ Below W.heap.size W w' := by
  have CS := hid (fun w0 (h : RgsAt w0 v rs) => signed_any v rs 3 w0 h hl (by decide))
  have Hv := hid hv; have Hu := hid hu
  obtain ⟨ua, ucap, rfl, _⟩ := hu.form
  clear hv hu
  cases hok : signedOk rs 3 with
  | false =>
    have Hok := hid hok; clear hok
    go_enter Try.func8, Try.ntmps8
    go_wp2_with (first
      | (go_at_call 12; refine (CS.out _ Hv.out).mono ?_; rintro e w1 ⟨hno, hyes, hb1⟩; obtain rfl := hno Hok.out; clear hno hyes)
      | (go_at_call 13; refine (talked_any _).mono ?_; rintro e w2 ⟨rfl, hb2⟩))
    go_ret
    exact ⟨rfl, bth hb1 hb2⟩
  | true =>
  have Hok := hid hok; clear hok
  by_cases h80 : 64 < hs.length
  · have d8 : decide ((64 : Int) < (hs.length : Int)) = true := decide_eq_true (by omega)
    clear h80
    go_enter Try.func8, Try.ntmps8
    go_wp2_with (first
      | (go_at_call 12; refine (CS.out _ Hv.out).mono ?_; rintro e w1 ⟨hno, hyes, hb1⟩; obtain ⟨x, ds, rfl, hs1⟩ := hyes Hok.out; clear hno hyes hs1)
      | (go_at_call 13; refine (talked_any _).mono ?_; rintro e w2 ⟨rfl, hb2⟩))
    go_ret
    exact ⟨rfl, bth hb1 hb2⟩
  have d8 : decide ((64 : Int) < (hs.length : Int)) = false := decide_eq_false (by omega)
  have h80' : hs.length ≤ 64 := by omega
  have P3 := hid (fun w0 (h : HdsAt w0 (.slice ua hs.length ucap) hs) => gputk_any _ hs w0 h (by omega))
  clear h80
  go_enter Try.func8, Try.ntmps8
  go_upto_region 4 with (go_at_call 12; refine (CS.out _ Hv.out).mono ?_; rintro e w1 ⟨hno, hyes, hb1⟩; obtain ⟨x, ds, rfl, hs1⟩ := hyes Hok.out; clear hno hyes)
  have Hs := hid hs1; clear hs1
  have Hu1 := hid (Hu.out.below hb1)
  have P1 := hid (fun w0 (h : SgsAt w0 x ds) => gput_any x ds w0 h (by have := Hs.out.le; omega))
  have HB1 := Below.refl w1.heap.size w1
  rcases hp1 : putGL ds with _ | t <;> rcases hp2 : putKL hs with _ | s
  all_goals
    rw [hp1] at P1
    rw [hp2] at P3
  · clear hp1 hp2
    go_wp2_with (first
      | (go_at_call 14; refine (P1.out _ (Hs.out.at_.below HB1)).mono ?_; rintro e w2 ⟨rfl, hb⟩; simp only [putR]; replace HB1 := bth HB1 hb; clear hb)
      | (go_at_call 16; refine (P3.out _ (Hu1.out.below HB1)).mono ?_; rintro e w4 ⟨rfl, hb⟩; simp only [putR]; replace HB1 := bth HB1 hb; clear hb)
      | (go_at_call 13; refine (talked_any _).mono ?_; rintro e w9 ⟨rfl, hb⟩; replace HB1 := bth HB1 hb; clear hb))
    go_ret
    exact ⟨rfl, bth hb1 HB1⟩
  · clear hp1
    have hk := KF.of Hu.out.ok hp2 n
    obtain ⟨k1, k2, k3, k4, k5, k6, k7, k8⟩ := hk
    generalize n % s.length = m2 at *
    have F1 := hid (fun w0 => gk_yes s _ w0 (by omega) k3)
    have F2 := hid (fun w0 => gk_no (s.take m2) w0 (by rw [List.length_take]; omega) k4)
    have F3 := hid (fun w0 => gk_no (s ++ [0]) w0 (by rw [List.length_append]; simp; omega) k5)
    have F4 := hid (fun w0 => gg_no s w0 (by omega) k6)
    have hz2 : ((s.length : Int) == 0) = false := by simp; exact fun h => by rw [h] at k1; simp at k1
    clear k3 k4 k5 k6
    clear hp2
    go_wp2_with (first
      | (go_at_call 14; refine (P1.out _ (Hs.out.at_.below HB1)).mono ?_; rintro e w2 ⟨rfl, hb⟩; simp only [putR]; replace HB1 := bth HB1 hb; clear hb)
      | (go_at_call 16; refine (P3.out _ (Hu1.out.below HB1)).mono ?_; rintro e w4 ⟨rfl, hb⟩; simp only [putR]; replace HB1 := bth HB1 hb; clear hb)
      | (go_at_call 33; (with_reducible refine (F1.out _).mono ?_); rintro e w3 ⟨v4, rfl, hat4, hb⟩; have H4 := hid hat4; replace HB1 := bth HB1 hb; clear hb hat4)
      | (go_at_call 35; refine (heads30_any v4 _ hs hs _ H4.out (Hu1.out.below HB1) (by omega) (by omega)).mono ?_; rw [decide_eq_true rfl]; rintro e w5 ⟨rfl, hb⟩; replace HB1 := bth HB1 hb; clear hb)
      | (go_at_call 33; (with_reducible refine (F2.out _).mono ?_); rintro e w6 ⟨rfl, hb⟩; replace HB1 := bth HB1 hb; clear hb)
      | (go_at_call 33; (with_reducible refine (F3.out _).mono ?_); rintro e w6 ⟨rfl, hb⟩; replace HB1 := bth HB1 hb; clear hb)
      | (go_at_call 31; (with_reducible refine (F4.out _).mono ?_); rintro e w6 ⟨rfl, hb⟩; replace HB1 := bth HB1 hb; clear hb)
      | (go_at_call 13; refine (talked_any _).mono ?_; rintro e w9 ⟨rfl, hb⟩; replace HB1 := bth HB1 hb; clear hb))
    go_ret
    exact ⟨rfl, bth hb1 HB1⟩
  · clear hp2
    have hg := GF.of Hs.out.at_.ok hp1 n
    obtain ⟨g1, g2, g3, g4, g5, g6, g7, g8⟩ := hg
    generalize n % t.length = m at *
    have E1 := hid (fun w0 => gg_yes t _ w0 (by omega) g3)
    have E2 := hid (fun w0 => gg_no (t.take m) w0 (by rw [List.length_take]; omega) g4)
    have E3 := hid (fun w0 => gg_no (t ++ [0]) w0 (by rw [List.length_append]; simp; omega) g5)
    have E4 := hid (fun w0 => gk_no t w0 (by omega) g6)
    have hz : ((t.length : Int) == 0) = false := by simp; exact fun h => by rw [h] at g1; simp at g1
    clear g3 g4 g5 g6
    clear hp1
    go_wp2_with (first
      | (go_at_call 14; refine (P1.out _ (Hs.out.at_.below HB1)).mono ?_; rintro e w2 ⟨rfl, hb⟩; simp only [putR]; replace HB1 := bth HB1 hb; clear hb)
      | (go_at_call 31; (with_reducible refine (E1.out _).mono ?_); rintro e w3 ⟨v3, d3, rfl, hat3, hmk3, hb⟩; have H3 := hid hat3; have M3 := hid hmk3; replace HB1 := bth HB1 hb; clear hb hat3 hmk3)
      | (go_at_call 18; refine (same30_any v3 x d3 ds _ H3.out (Hs.out.at_.below HB1) (by have := congrArg List.length M3.out; simp only [List.length_map] at this; rw [this]; have := Hs.out.le; omega) (by have := Hs.out.le; omega)).mono ?_; rw [decide_eq_true M3.out]; rintro e w5 ⟨rfl, hb⟩; replace HB1 := bth HB1 hb; clear hb)
      | (go_at_call 31; (with_reducible refine (E2.out _).mono ?_); rintro e w6 ⟨rfl, hb⟩; replace HB1 := bth HB1 hb; clear hb)
      | (go_at_call 31; (with_reducible refine (E3.out _).mono ?_); rintro e w6 ⟨rfl, hb⟩; replace HB1 := bth HB1 hb; clear hb)
      | (go_at_call 33; (with_reducible refine (E4.out _).mono ?_); rintro e w6 ⟨rfl, hb⟩; replace HB1 := bth HB1 hb; clear hb)
      | (go_at_call 16; refine (P3.out _ (Hu1.out.below HB1)).mono ?_; rintro e w4 ⟨rfl, hb⟩; simp only [putR]; replace HB1 := bth HB1 hb; clear hb)
      | (go_at_call 13; refine (talked_any _).mono ?_; rintro e w9 ⟨rfl, hb⟩; replace HB1 := bth HB1 hb; clear hb))
    go_ret
    exact ⟨rfl, bth hb1 HB1⟩
  ·
    have hg := GF.of Hs.out.at_.ok hp1 n
    obtain ⟨g1, g2, g3, g4, g5, g6, g7, g8⟩ := hg
    generalize n % t.length = m at *
    have E1 := hid (fun w0 => gg_yes t _ w0 (by omega) g3)
    have E2 := hid (fun w0 => gg_no (t.take m) w0 (by rw [List.length_take]; omega) g4)
    have E3 := hid (fun w0 => gg_no (t ++ [0]) w0 (by rw [List.length_append]; simp; omega) g5)
    have E4 := hid (fun w0 => gk_no t w0 (by omega) g6)
    have hz : ((t.length : Int) == 0) = false := by simp; exact fun h => by rw [h] at g1; simp at g1
    clear g3 g4 g5 g6
    have hk := KF.of Hu.out.ok hp2 n
    obtain ⟨k1, k2, k3, k4, k5, k6, k7, k8⟩ := hk
    generalize n % s.length = m2 at *
    have F1 := hid (fun w0 => gk_yes s _ w0 (by omega) k3)
    have F2 := hid (fun w0 => gk_no (s.take m2) w0 (by rw [List.length_take]; omega) k4)
    have F3 := hid (fun w0 => gk_no (s ++ [0]) w0 (by rw [List.length_append]; simp; omega) k5)
    have F4 := hid (fun w0 => gg_no s w0 (by omega) k6)
    have hz2 : ((s.length : Int) == 0) = false := by simp; exact fun h => by rw [h] at k1; simp at k1
    clear k3 k4 k5 k6
    clear hp1 hp2
    go_wp2_with (first
      | (go_at_call 14; refine (P1.out _ (Hs.out.at_.below HB1)).mono ?_; rintro e w2 ⟨rfl, hb⟩; simp only [putR]; replace HB1 := bth HB1 hb; clear hb)
      | (go_at_call 31; (with_reducible refine (E1.out _).mono ?_); rintro e w3 ⟨v3, d3, rfl, hat3, hmk3, hb⟩; have H3 := hid hat3; have M3 := hid hmk3; replace HB1 := bth HB1 hb; clear hb hat3 hmk3)
      | (go_at_call 18; refine (same30_any v3 x d3 ds _ H3.out (Hs.out.at_.below HB1) (by have := congrArg List.length M3.out; simp only [List.length_map] at this; rw [this]; have := Hs.out.le; omega) (by have := Hs.out.le; omega)).mono ?_; rw [decide_eq_true M3.out]; rintro e w5 ⟨rfl, hb⟩; replace HB1 := bth HB1 hb; clear hb)
      | (go_at_call 31; (with_reducible refine (E2.out _).mono ?_); rintro e w6 ⟨rfl, hb⟩; replace HB1 := bth HB1 hb; clear hb)
      | (go_at_call 31; (with_reducible refine (E3.out _).mono ?_); rintro e w6 ⟨rfl, hb⟩; replace HB1 := bth HB1 hb; clear hb)
      | (go_at_call 33; (with_reducible refine (E4.out _).mono ?_); rintro e w6 ⟨rfl, hb⟩; replace HB1 := bth HB1 hb; clear hb)
      | (go_at_call 16; refine (P3.out _ (Hu1.out.below HB1)).mono ?_; rintro e w4 ⟨rfl, hb⟩; simp only [putR]; replace HB1 := bth HB1 hb; clear hb)
      | (go_at_call 33; (with_reducible refine (F1.out _).mono ?_); rintro e w3 ⟨v4, rfl, hat4, hb⟩; have H4 := hid hat4; replace HB1 := bth HB1 hb; clear hb hat4)
      | (go_at_call 35; refine (heads30_any v4 _ hs hs _ H4.out (Hu1.out.below HB1) (by omega) (by omega)).mono ?_; rw [decide_eq_true rfl]; rintro e w5 ⟨rfl, hb⟩; replace HB1 := bth HB1 hb; clear hb)
      | (go_at_call 33; (with_reducible refine (F2.out _).mono ?_); rintro e w6 ⟨rfl, hb⟩; replace HB1 := bth HB1 hb; clear hb)
      | (go_at_call 33; (with_reducible refine (F3.out _).mono ?_); rintro e w6 ⟨rfl, hb⟩; replace HB1 := bth HB1 hb; clear hb)
      | (go_at_call 31; (with_reducible refine (F4.out _).mono ?_); rintro e w6 ⟨rfl, hb⟩; replace HB1 := bth HB1 hb; clear hb)
      | (go_at_call 13; refine (talked_any _).mono ?_; rintro e w9 ⟨rfl, hb⟩; replace HB1 := bth HB1 hb; clear hb))
    go_ret
    exact ⟨rfl, bth hb1 HB1⟩
end Go.Proofs.Ytjpnlnbpaecciaa

/- speculumlaw30.turned: a text of which one byte is another one -/
import Derived.Test.YtjpnlnbpaecciaaQBase
import Derived.Test.YtjpnlnbpaecciaaQBsAt
import Derived.Test.YtjpnlnbpaecciaaQTalked

set_option maxRecDepth 100000
namespace Go.Spec
open Go.RowKit
variable {P : Program} {w : World}
/-- a byte of a row is written over -/
theorem RowM.set {base e : Nat} {v : Value} {l : List UInt8} (h : RowM w base e v l) (g : Nat) (n cap : Nat) (hv : v = .slice (some ⟨g, 0, none⟩) n cap) (k : Nat) (hk : k < l.length) (b : UInt8) :
    RowM (w.setCell ⟨g, k, none⟩ (bcell b)) base e v (l.set k b) := by
  obtain ⟨g', cap', cur, fr, hv', h1, h2, h3, h4, h5, h6, h7⟩ := h
  subst hv'
  injection hv with e1 _ _
  injection e1 with e1
  injection e1 with e1 _
  subst e1
  refine ⟨g', cap', cur.setIfInBounds k (bcell b), fr, by rw [List.length_set], h1, by simp [World.setCell, Array.getElem?_modify, h2], by simpa using h3, by rw [List.length_set]; exact h4, h5, by simpa using h6, ?_⟩
  rw [List.length_set, Array.toList_setIfInBounds, List.take_set, h7, List.map_set]
/-- no text shares it -/
theorem RowM.thawed {base e : Nat} {v : Value} {l : List UInt8} (h : RowM w base e v l) (g : Nat) (n cap : Nat) (hv : v = .slice (some ⟨g, 0, none⟩) n cap) (k : Nat) (hk : k < l.length) : w.frozen? ⟨g, k, none⟩ = false := by
  obtain ⟨g', cap', cur, fr, hv', h1, h2, h3, h4, h5, h6, h7⟩ := h
  subst hv'
  injection hv with e1 _ _
  injection e1 with e1
  injection e1 with e1 _
  subst e1
  unfold World.frozen?
  rw [h2]
  rcases h3 with rfl | h3
  · simp
  · simp; omega
end Go.Spec
namespace Go.Proofs.Ytjpnlnbpaecciaa
open Go.RowKit Go.Spec
/-- where turned turns -/
def turnK (n p r : Nat) : Nat := if r % 2 = 0 then p % n % min n 60 else p % n
def turnL (s : List UInt8) (p q r : Nat) : List UInt8 := if s.length = 0 then s else s.set (turnK s.length p r) (UInt8.ofNat q)
theorem turnL_len (s : List UInt8) (p q r : Nat) : (turnL s p q r).length = s.length := by unfold turnL; split <;> simp
def aV (p q r : Nat) : Value := .agg #[.int .u16 (p : Int), .int .u16 (q : Int), .int .u16 (r : Int)]
set_option maxHeartbeats 4000000 in
theorem turned_any (s : List UInt8) (p q r : Nat) (w : World) (hs : s.length ≤ maxLen) (hp : p < 65536) (hq : q < 65536) (hr : r < 65536) :
    Calls Try.prog 30 #[sv s, aV p q r] w fun e w' => e = .returned (sv (turnL s p q r)) ∧ Below w.heap.size w w' := by
  have HD := hid hs; clear hs
  by_cases h0 : s.length = 0
  · have d0 : ((s.length : Int) == 0) = true := by simp [h0]
    have HF := hid (show turnL s p q r = s by unfold turnL; rw [if_pos h0])
    unfold aV
    clear h0
    go_enter Try.func30, Try.ntmps30
    go_wp2
    go_ret
    exact ⟨by rw [HF.out]; rfl, (Below.refl _ w).alloc (Nat.le_refl _) _⟩
  have d0 : ((s.length : Int) == 0) = false := by simp; exact fun h => by rw [h] at h0; exact h0 rfl
  have hpos : 0 < s.length := by omega
  have HF := hid (show turnL s p q r = s.set (turnK s.length p r) (UInt8.ofNat q) by unfold turnL; rw [if_neg h0])
  have e1 : (p : Int).tmod (s.length : Int) = ((p % s.length : Nat) : Int) := by rw [Int.tmod_eq_emod_of_nonneg (by omega)]; rfl
  have e2 : (r : Int).tmod 2 = ((r % 2 : Nat) : Int) := by rw [Int.tmod_eq_emod_of_nonneg (by omega)]; rfl
  have hlt := Nat.mod_lt p hpos
  have hK := hid (show turnK s.length p r = if r % 2 = 0 then p % s.length % min s.length 60 else p % s.length from rfl)
  have hr2 : r % 2 < 2 := Nat.mod_lt _ (by omega)
  unfold aV
  clear h0
  generalize p % s.length = K at *
  generalize r % 2 = R at *
  go_enter Try.func30, Try.ntmps30
  go_upto_region 1 with fail
  refine wp_world (fun W => Blk W w.heap.size #[.int .u16 (p : Int), .int .u16 (q : Int), .int .u16 (r : Int)] 58 ∧ Below w.heap.size w W) ⟨Blk.new _ _ _, (Below.refl _ w).alloc (Nat.le_refl _) _⟩ ?_
  rintro w0 ⟨hB, hb0⟩
  have Hb0 := hid hb0
  have HB := hid hB
  clear hB hb0
  go_upto_region 4 with ((with_reducible show wpList _ _ _ ({ dst := _, op := Op.convert 9 79 _, type := _, pos := _, after := _, guard := _ } :: _) _ _); refine wpList_convM rfl 9 79 5 _ rfl s rfl Try.underlying9 Try.underlying79 Try.underlying5 HD.out ?_; intro v w1 hrow hb1)
  have a0 : w1.cell? ⟨w.heap.size, 0, none⟩ = some (.int .u16 (p : Int)) := Blk.cell (HB.out.later hb1) 0
  have a1 : w1.cell? ⟨w.heap.size, 1, none⟩ = some (.int .u16 (q : Int)) := Blk.cell (HB.out.later hb1) 1
  have a2 : w1.cell? ⟨w.heap.size, 2, none⟩ = some (.int .u16 (r : Int)) := Blk.cell (HB.out.later hb1) 2
  obtain ⟨g, cap, hv, hg, hgl, hcap, hcell⟩ := hrow.get
  have Hrow := hid hrow
  have Hset := hid (fun k hk b => hrow.set g s.length cap hv k hk b)
  subst hv
  have Hb1 := hid hb1
  clear hrow hb1
  go_upto_if 22 with fail
  have Hfin := hid (fun k (h : k < s.length) => BsAt.conv (P := Try.prog) (BsAt.of_row (Hset.out k h (UInt8.ofNat q))) 79 9 5 Try.underlying79 Try.underlying5 Try.underlying9)
  have HB2 := hid (bth Hb0.out Hb1.out)
  have Hcv := hid (fun k (h : k < s.length) => show (convert 79 9 (.slice (some ⟨g, 0, none⟩) s.length cap)).run Try.prog (w1.setCell ⟨g, k, none⟩ (.int .u8 ((q : Int) % 256))) = .ok (sv (s.set k (UInt8.ofNat q))) (w1.setCell ⟨g, k, none⟩ (.int .u8 ((q : Int) % 256))) by
    have e : Value.int .u8 ((q : Int) % 256) = bcell (UInt8.ofNat q) := by unfold bcell; simp
    rw [e]
    exact Hfin.out k h)
  have Hce := hid (fun k (h : k < s.length) => hcell k h)
  have Hfz := hid (fun k (h : k < s.length) => Hrow.out.thawed g s.length cap rfl k h)
  have HBW := hid (show w.heap.size ≤ g from Nat.le_trans Hb0.out.size hg)
  have hq3 : IntKind.u8.wrap (q : Int) = (q : Int) % 256 := by rw [IntKind.wrap_u8]
  clear hcell hg Hset Hfin
  rcases (show R = 0 ∨ R = 1 by omega) with rfl | rfl
  · have hm : 0 < min s.length 60 := by omega
    have hl2 := Nat.mod_lt K hm
    have hl3 : K % min s.length 60 < s.length := by omega
    have e4 : (if (60 : Int) < (s.length : Int) then (60 : Int) else (s.length : Int)) = ((min s.length 60 : Nat) : Int) := by split <;> omega
    have e5 : (K : Int) % ((min s.length 60 : Nat) : Int) = ((K % min s.length 60 : Nat) : Int) := rfl
    have HF2 := hid (show turnK s.length p r = K % min s.length 60 by rw [hK.out, if_pos rfl])
    clear hK
    generalize min s.length 60 = M at *
    generalize K % M = K2 at *
    have hkI : (K2 : Int) < (s.length : Int) := by omega
    go_upto_region 7 with fail
    simp only [e4, e5]
    have hc1 := Hcv.out K2 hl3
    have hc2 := Hce.out K2 hl3
    have hc3 := Hfz.out K2 hl3
    go_wp2
    go_ret
    exact ⟨by rw [HF.out, HF2.out]; rfl, (HB2.out).setCell (by exact HBW.out) _⟩
  · have HF2 := hid (show turnK s.length p r = K by rw [hK.out, if_neg (by omega)])
    clear hK
    have hc1 := Hcv.out K hlt
    have hc2 := Hce.out K hlt
    have hc3 := Hfz.out K hlt
    have hkI : (K : Int) < (s.length : Int) := by omega
    go_wp2
    go_ret
    exact ⟨by rw [HF.out, HF2.out]; rfl, (HB2.out).setCell (by exact HBW.out) _⟩
end Go.Proofs.Ytjpnlnbpaecciaa

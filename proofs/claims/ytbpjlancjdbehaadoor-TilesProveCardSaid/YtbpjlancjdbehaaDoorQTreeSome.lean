/- speculumlaw04.Some -/
import Derived.Test.YtbpjlancjdbehaaDoorQTreeSame

set_option maxRecDepth 100000
namespace Go.Proofs.YtbpjlancjdbehaaDoor
open Go.RowKit Go.Spec
def someH (seed : UInt8) (i : Nat) : List UInt8 := [seed, UInt8.ofNat (i % 256), UInt8.ofNat (i / 256 % 256), 1] ++ List.replicate 28 0
def someL (seed : UInt8) (n : Nat) : List (List UInt8) := (List.range n).map (someH seed)
theorem someH_len (seed : UInt8) (i : Nat) : (someH seed i).length = 32 := by simp [someH]
theorem someL_len (seed : UInt8) (n : Nat) : (someL seed n).length = n := by simp [someL]
theorem someL_next (seed : UInt8) (n : Nat) : someL seed (n + 1) = someL seed n ++ [someH seed n] := by simp [someL, List.range_succ]
theorem Tryd.infoHash : (Tryd.prog.info? 29).map (fun i => (i.zero, i.size, i.bytes)) = some (some (hv zero32), 32, 32) := by kernel_rfl
theorem Tryd.infoHash2 : (Tryd.prog.info? 29).map (fun i => (i.zero, i.size)) = some (some (hv zero32), 32) := by kernel_rfl
theorem some_cells (seed : UInt8) (i : Nat) : ([Value.int .u8 (seed.toNat : Int), .int .u8 ((i : Int) % 256), .int .u8 ((i : Int) / 256 % 256), .int .u8 1] ++ List.replicate 28 (.int .u8 0)) = (someH seed i).map bcell := by
  have e1 : Value.int .u8 ((i : Int) % 256) = bcell (UInt8.ofNat (i % 256)) := by rw [← bcell_mk _ (by omega)]; congr 1
  have e2 : Value.int .u8 ((i : Int) / 256 % 256) = bcell (UInt8.ofNat (i / 256 % 256)) := by rw [← bcell_mk _ (by omega)]; congr 1
  rw [e1, e2]
  unfold someH
  generalize UInt8.ofNat (i % 256) = p
  generalize UInt8.ofNat (i / 256 % 256) = q
  simp [bcell]
set_option maxHeartbeats 1000000 in
theorem some_any (seed : UInt8) (n : Nat) (w : World) (hn : n ≤ 1000000) :
    Calls Tryd.prog 39 #[.int .i64 (n : Int), .int .u8 (seed.toNat : Int)] w fun e w' => ∃ v, e = .returned v ∧ w'.ownsRow w.heap.size 29 32 v n (hflat (someL seed n)) ∧ Below w.heap.size w w' := by
  obtain ⟨i0, hi, hz0, hz1, hz2⟩ := info_parts Tryd.infoHash
  go_enter Tryd.func39, Tryd.ntmps39
  go_wp2
  go_loopw [5, 6] (fun v i wr => ∃ k : Nat, k ≤ n ∧ i = .int .i64 (k : Int) ∧ wr.ownsRow w.heap.size 29 32 v k (hflat (someL seed k)) ∧ Below w.heap.size w wr) (fun _ i _ => n - (intOf i).toNat)
  case atStart => exact ⟨0, by omega, rfl, World.ownsRow_nil _ _ _ _, Below.refl _ _⟩
  case round =>
    obtain ⟨k, hk, rfl, hown, hb⟩ := hrel
    by_cases hlt : k < n
    · have hd : decide (k < n) = true := by simpa using hlt
      have Hnext := hid (someL_next seed k)
      have Hag := hid (some_cells seed k)
      have HL := hid (someH_len seed k)
      generalize someH seed k = L at *
      generalize hM : hflat (someL seed k) = M at *
      have HM := hid hM; clear hM
      go_wp2_with (first
        | (at_builtin; go_must (refine wpList_app rfl _ _ 22 rfl w.heap.size 29 i0 (hv zero32) 32 32 Tryd.underlying22 hi hz0 hz1 hz2 rfl (by decide) _ k M rfl ?c1 ⟨wr.heap.size, 0, none⟩ 1 1 (L.map bcell) rfl ?c2 ?c3 ?c4 ?c5 ?c6 ?c7 ?_)))
      case c1 => exact hown.alloc _
      case c2 => simp [HL.out]
      case c3 =>
        intro j u hj
        have hcs := Hag.out
        have hx := (Blk.new wr ([Value.int .u8 (seed.toNat : Int), .int .u8 ((k : Int) % 256), .int .u8 ((k : Int) / 256 % 256), .int .u8 1] ++ List.replicate 28 (Value.int .u8 0)).toArray 29).cells j u (by rw [List.toList_toArray, hcs]; exact hj)
        exact hx
      case c4 => exact bcell_one L
      case c5 => unfold maxLen; omega
      case c6 => omega
      case c7 => have := hb.size; simp; omega
      intro v' w5 hown' hgrow hat
      go_wp2
      go_roundw
      case rel =>
        refine ⟨k + 1, by omega, by go_num, ?_, ?_⟩
        · rw [Hnext.out, hflat_snoc, HM.out]; exact hown'
        · exact (hb.alloc hb.size _).grown hgrow (by have := hb.size; simp; omega) (fun q hq => (hown.lt q hq).1)
      case measure => simp [intOf]; omega
    · obtain rfl : k = n := by omega
      have hd : decide (k < k) = false := by simp
      go_wp2
      go_ret
      exact ⟨_, rfl, hown, hb⟩
theorem someL_32 (seed : UInt8) (n : Nat) : ∀ x ∈ someL seed n, x.length = 32 := by
  intro x hx
  unfold someL at hx
  obtain ⟨i, _, rfl⟩ := List.mem_map.mp hx
  exact someH_len seed i
theorem some_sl (seed : UInt8) (n : Nat) (w : World) (hn : n ≤ 1000000) :
    Calls Tryd.prog 39 #[.int .i64 (n : Int), .int .u8 (seed.toNat : Int)] w fun e w' => ∃ v, e = .returned v ∧ SlAt w' 32 v (hcs (someL seed n)) ∧ Below w.heap.size w w' :=
  (some_any seed n w hn).mono fun _ _ ⟨v, he, hown, hb⟩ => ⟨v, he, SlAt.of_owns (size := 32) (hs := someL seed n) (by rw [someL_len]; exact hown) (someL_32 seed n), hb⟩
end Go.Proofs.YtbpjlancjdbehaaDoor

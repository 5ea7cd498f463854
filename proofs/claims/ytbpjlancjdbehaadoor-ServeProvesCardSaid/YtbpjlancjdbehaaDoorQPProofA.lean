/- proofs.Proof -/
import Derived.Test.YtbpjlancjdbehaaDoorQPProof
import Derived.Test.YtbpjlancjdbehaaDoorQRProof

set_option maxRecDepth 100000
namespace Go.Proofs.YtbpjlancjdbehaaDoor
open Go.RowKit Go.Spec
theorem slNilP (w : World) : SlAt w 32 (.slice none 0 0) (hcs []) := ⟨none, 0, rfl, Nat.le_refl _, fun _ h => by simp [hcs] at h, fun i cs h => by simp [hcs] at h⟩
set_option maxHeartbeats 2000000 in
theorem pproof_any (l : List (List UInt8)) (v : Value) (m : Int) (w : World) (hl : l.length ≤ 1000000) (hS : SlAt w 32 v (hcs l)) (hG : ShaG w) :
    Calls Tryd.prog 58 #[v, .int .i64 m] w fun e w' => (∃ u, e = .returned (.tuple #[u, .int .i64 (rprE l m)]) ∧ SlAt w' 32 u (hcs (rprX l m))) ∧ Below w.heap.size w w' := by
  obtain ⟨a, cap, rfl, hcap⟩ := hS.formH
  by_cases h0 : m < 0
  · have d0 : decide (m < 0) = true := by simpa using h0
    have e1 : rprE l m = 2 := by unfold rprE; rw [if_neg (by omega)]
    have e2 : rprX l m = [] := by unfold rprX; rw [if_neg (by omega)]
    rw [e1, e2]
    clear h0 hS hG e1 e2
    go_enter Tryd.func58, Tryd.ntmps58
    go_wp2
    go_ret2
    exact ⟨⟨_, rfl, slNilP _⟩, Below.refl _ _⟩
  · have d0 : decide (m < 0) = false := by simpa using h0
    by_cases h1 : (l.length : Int) < m
    · have d1 : decide ((l.length : Int) < m) = true := by simpa using h1
      have e1 : rprE l m = 2 := by unfold rprE; rw [if_neg (by omega)]
      have e2 : rprX l m = [] := by unfold rprX; rw [if_neg (by omega)]
      rw [e1, e2]
      clear h0 h1 hS hG e1 e2
      go_enter Tryd.func58, Tryd.ntmps58
      go_wp2
      go_ret2
      exact ⟨⟨_, rfl, slNilP _⟩, Below.refl _ _⟩
    · have d1 : decide ((l.length : Int) < m) = false := by simpa using h1
      have e1 : rprE l m = 0 := by unfold rprE; rw [if_pos (by omega)]
      rw [e1]
      obtain ⟨k, rfl⟩ : ∃ k : Nat, m = k := ⟨m.toNat, by omega⟩
      have d3 : decide (l.length < k) = false := by simp; omega
      by_cases hk : k = 0
      · subst hk
        have e2 : rprX l ((0 : Nat) : Int) = [] := by unfold rprX; rw [if_neg (by omega)]
        rw [e2]
        have d2 : (((0 : Nat) : Int) == 0) = true := rfl
        clear h0 h1 hS hG e1 e2
        go_enter Tryd.func58, Tryd.ntmps58
        go_wp2
        go_ret2
        exact ⟨⟨_, rfl, slNilP _⟩, Below.refl _ _⟩
      · have d2 : ((k : Int) == 0) = false := by rw [beq_eq_false_iff_ne]; omega
        have e2 : rprX l (k : Int) = subL l k true := by unfold rprX; rw [if_pos (by omega)]; rfl
        rw [e2]
        by_cases hkl : k = l.length
        · have d4 : ((k : Int) == (l.length : Int)) = true := by simp [hkl]
          have e3 : subL l k true = [] := by rw [hkl, sub_all l true (by omega)]; rfl
          rw [e3]
          clear h0 h1 hS hG e1 e2 e3 hkl hk
          go_enter Tryd.func58, Tryd.ntmps58
          go_wp2
          go_ret2
          exact ⟨⟨_, rfl, slNilP _⟩, Below.refl _ _⟩
        · have d4 : ((k : Int) == (l.length : Int)) = false := beq_eq_false_iff_ne.mpr (by omega)
          have H32 := hid (sub_32 l.length l k true (Nat.le_refl _) (by omega) (by omega) hS.len32)
          have H112 := hid (show (Tryd.prog.info? 112).map (·.size) = some 1 by kernel_rfl)
          have HW : Hid (∀ cs cs' : Array Value, ((w.alloc (.cells #[.slice none 0 0] 22)).alloc (.cells cs 112)).setRow (w.heap.size + 1) cs' = (w.alloc (.cells #[.slice none 0 0] 22)).alloc (.cells cs' 112)) := hid (by
            intro cs cs'
            have := setRow_alloc (w.alloc (.cells #[.slice none 0 0] 22)) cs cs' 112 (0, 0)
            rw [← this]; congr 1; simp)
          have HB : Below w.heap.size w ((w.alloc (.cells #[.slice none 0 0] 22)).alloc (.cells #[subFn w.heap.size (w.heap.size + 1)] 112)) := ((Below.refl _ w).alloc (Nat.le_refl _) _).alloc (by simp) _
          have hsz : ((w.alloc (.cells #[.slice none 0 0] 22)).alloc (.cells #[subFn w.heap.size (w.heap.size + 1)] 112)).heap.size = w.heap.size + 2 := by simp
          have hW : SubW ((w.alloc (.cells #[.slice none 0 0] 22)).alloc (.cells #[subFn w.heap.size (w.heap.size + 1)] 112)) w.heap.size (w.heap.size + 1) :=
            ⟨hG.later HB, (Blk.new _ _ _).alloc _, Blk.new' _ _ _ (by simp), by omega⟩
          have hI := sub_at _ _ _ hW l.length l (.slice a l.length cap) k true [] _ (Nat.le_refl _) (by omega) (by omega) hl (by simpa using hl) (hS.below HB (Nat.le_refl _)) (OutK.refl _ _ _) ⟨_, hW.out, World.ownsRow_nil _ _ _ _⟩
          rw [List.nil_append] at hI
          have HI := hid hI
          have HF := hid (Blk.cell1 hW.fn)
          have Hf := hid hW.fn
          have Hsz := hid hsz
          have HBh := hid HB
          generalize subL l k true = Q at *
          clear h0 h1 hS hG e1 e2 hk hW hI hsz HB
          go_enter Tryd.func58, Tryd.ntmps58
          go_upto_region 8 with (first
            | ((with_reducible show wpList _ _ _ ({ dst := _, op := Op.store 112 _ _, type := _, pos := _, after := _, guard := _ } :: _) _ _); refine wpList_store_oneW rfl 112 _ _ rfl (w.heap.size + 1) rfl (subFn w.heap.size (w.heap.size + 1)) rfl _ 112 (Blk.new' _ _ _ (by simp)) H112.out rfl rfl _ (HW.out _ _) ?_))
          show Code.wp _ _ _ _ ((w.alloc (.cells #[.slice none 0 0] 22)).alloc (.cells #[subFn w.heap.size (w.heap.size + 1)] 112))
          clear HW
          generalize (w.alloc (.cells #[.slice none 0 0] 22)).alloc (.cells #[subFn w.heap.size (w.heap.size + 1)] 112) = w0 at *
          go_upto_region 9 with (first
            | ((with_reducible show wpList _ _ _ ({ dst := _, op := Op.load 112 _, type := _, pos := _, after := _, guard := _ } :: _) _ _); refine wpList_load_one rfl 112 _ rfl ⟨w.heap.size + 1, 0, none⟩ rfl _ _ HF.out Tryd.underlying112 rfl ?_)
            | (go_at_call 75; refine HI.out.mono ?_; rintro e w2 ⟨rfl, hK2, hV2⟩))
          obtain ⟨vo, hvo, hown⟩ := hV2
          have HBf := hid (hK2.below HBh.out (Nat.le_refl _) (by have := Hsz.out; omega))
          have Hc := hid (Blk.cell1 hvo)
          have HU := hid (SlAt.of_owns (size := 32) (hs := Q) hown H32.out)
          clear hK2 hvo hown HI HF Hf
          go_wp2_with ((with_reducible show wpList _ _ _ ({ dst := _, op := Op.load 22 _, type := _, pos := _, after := _, guard := _ } :: _) _ _); refine wpList_load_one rfl 22 _ rfl ⟨w.heap.size, 0, none⟩ rfl vo _ Hc.out Tryd.underlying22 rfl ?_)
          go_ret2
          exact ⟨⟨_, rfl, HU.out⟩, HBf.out⟩
end Go.Proofs.YtbpjlancjdbehaaDoor

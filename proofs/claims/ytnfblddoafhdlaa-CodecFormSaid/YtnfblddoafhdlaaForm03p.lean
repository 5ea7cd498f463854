import Derived.Test.YtnfblddoafhdlaaForm03
set_option maxRecDepth 100000
namespace Go.Proofs.Ytnfblddoafhdlaa
open Go.RowKit Go.Spec
set_option maxHeartbeats 4000000 in
theorem form_1111 (l G R D E I L : List UInt8) (N : Nat) (K : List (List UInt8)) (w : World) (h1' : l.length ≤ 2500)
    (Hread : ∀ w, Calls Try.prog 17 #[sv l] w fun e w' => e = .returned (.tuple #[.int .u64 ((N : Nat) : Int), sv R, .bool true]) ∧ Below w.heap.size w w')
    (Hcut : ∀ w, Calls Try.prog 19 #[sv l] w fun e w' => e = .returned (.tuple #[sv D, sv E, .bool true]) ∧ Below w.heap.size w w')
    (Hun : ∀ w, Calls Try.prog 21 #[sv l] w fun e w' => e = .returned (.tuple #[hv G, sv I, .bool true]) ∧ Below w.heap.size w w')
    (Hus : ∀ w, Calls Try.prog 23 #[sv l] w fun e w' => ∃ a cap, e = .returned (.tuple #[.slice a K.length cap, sv L, .bool true]) ∧ SlAt w' 32 (.slice a K.length cap) (hcs K) ∧ Below w.heap.size w w')
    (hN : N < 18446744073709551616) (hR : R.length ≤ 2500) (c1 : (numL N ++ R == l) = true)
    (hD : D.length ≤ 2500) (hE : E.length ≤ 2500) (f1 : (numL D.length ++ (D ++ E) == l) = true)
    (hI : I.length ≤ 2500) (i1 : (G ++ I == l) = true)
    (hK : K.length ≤ 64) (hHK : (hashesL K).length ≤ 2500) (hL : L.length ≤ 2500) (m1 : (hashesL K ++ L == l) = true)
    (hX : G.length = 32) : Calls Try.prog 7 #[sv l] w fun e w' => e = .returned (.bool true) ∧ Below w.heap.size w w' := by
  have HB := Below.refl w.heap.size w
  have hd : decide ((2500 : Int) < (l.length : Int)) = false := by simp; omega
  have Hread := hid Hread; have Hcut := hid Hcut; have Hun := hid Hun; have Hus := hid Hus
  have hnN := numL_len N hN
  have HN := hid hN; clear hN
  have hnD := numL_len D.length (by omega)
  have Hx := hid hX
  have Hsx := hid (show (Try.prog.info? 27).map (·.size) = some G.length by rw [hX]; exact Try.sizeHash)
  have Hsx2 := hid (show (Try.prog.info? 27).map (·.size) = some (hc G).size by rw [hc_size, hX]; exact Try.sizeHash)
  have hz32 : zero32.length = 32 := rfl
  have hs5 := Try.sizeU8
  have hge := Try.guardHash
  go_enter Try.func7, Try.ntmps7
  go_wp2_with (first
    | (go_at_call 17; refine (Hread.out _).mono ?_; rintro e w1 ⟨rfl, hb⟩; replace HB := bch HB hb; clear hb)
    | (go_at_call 19; refine (Hcut.out _).mono ?_; rintro e w2 ⟨rfl, hb⟩; replace HB := bch HB hb; clear hb)
    | (go_at_call 21; refine (Hun.out _).mono ?_; rintro e w3 ⟨rfl, hb⟩; replace HB := bch HB hb; clear hb)
    | ((with_reducible show wpList _ _ _ ({ dst := _, op := Op.store _ _ _, type := _, pos := _, after := _, guard := _ } :: _) _ (World.alloc w3 _))
       refine wpList_store_new (w := w3) rfl 27 _ _ rfl rfl G rfl _ 27 (by rw [Hx.out]; rfl) Hsx.out ?_
       replace HB := Below.alloc HB HB.size (.cells (hc G) 27)
       have HG := Below.refl (w3.alloc (.cells (hc G) 27)).heap.size (w3.alloc (.cells (hc G) 27)))
    | (go_at_call 23; refine (Hus.out _).mono ?_; rintro e w4 ⟨a1, cap1, rfl, HU, hb⟩; replace HB := bch HB hb; replace HG := bch HG hb; clear hb)
    | (go_at_call 11; refine (num_any N _ HN.out).mono ?_; rintro e w5 ⟨rfl, hb⟩; replace HB := bch HB hb; replace HG := bch HG hb; replace HU := HU.below hb (Nat.le_refl _); clear hb)
    | (go_at_call 13; refine (text_any D _ (by omega)).mono ?_; rintro e w6 ⟨rfl, hb⟩; replace HB := bch HB hb; replace HG := bch HG hb; replace HU := HU.below hb (Nat.le_refl _); clear hb)
    | ((with_reducible show wpList _ _ _ ({ dst := _, op := Op.load 27 _, type := _, pos := _, after := _, guard := some (22, true) } :: _) _ _); refine wpList_load_rowG rfl 27 _ rfl w3.heap.size rfl 27 (hc G) (0, 0) _ (blk HG (heap_alloc_new _ _)) Try.underlying27 rfl Hsx2.out ?_)
    | (go_at_call 9; refine (hash_any G _ Hx.out).mono ?_; rintro e w7 ⟨rfl, hb⟩; replace HB := bch HB hb; replace HG := bch HG hb; replace HU := HU.below hb (Nat.le_refl _); clear hb)
    | (go_at_call 15; refine (hashes_any _ K _ HU (by omega)).mono ?_; rintro e w8 ⟨rfl, hb⟩; replace HB := bch HB hb; replace HG := bch HG hb; clear hb)
    | (go_at_call 8; refine (coded_any _).mono ?_; rintro e w9 ⟨rfl, hb⟩; replace HB := bch HB hb; clear hb))
  go_ret
  exact ⟨rfl, HB⟩
set_option maxHeartbeats 4000000 in
theorem form_1110 (l G R D E I  : List UInt8) (N : Nat)  (w : World) (h1' : l.length ≤ 2500)
    (Hread : ∀ w, Calls Try.prog 17 #[sv l] w fun e w' => e = .returned (.tuple #[.int .u64 ((N : Nat) : Int), sv R, .bool true]) ∧ Below w.heap.size w w')
    (Hcut : ∀ w, Calls Try.prog 19 #[sv l] w fun e w' => e = .returned (.tuple #[sv D, sv E, .bool true]) ∧ Below w.heap.size w w')
    (Hun : ∀ w, Calls Try.prog 21 #[sv l] w fun e w' => e = .returned (.tuple #[hv G, sv I, .bool true]) ∧ Below w.heap.size w w')
    (Hus : ∀ w, Calls Try.prog 23 #[sv l] w fun e w' => ∃ a cap, e = .returned (.tuple #[.slice a 0 cap, sv [], .bool false]) ∧ SlAt w' 32 (.slice a 0 cap) (hcs []) ∧ Below w.heap.size w w')
    (hN : N < 18446744073709551616) (hR : R.length ≤ 2500) (c1 : (numL N ++ R == l) = true)
    (hD : D.length ≤ 2500) (hE : E.length ≤ 2500) (f1 : (numL D.length ++ (D ++ E) == l) = true)
    (hI : I.length ≤ 2500) (i1 : (G ++ I == l) = true)
    (hX : G.length = 32) : Calls Try.prog 7 #[sv l] w fun e w' => e = .returned (.bool true) ∧ Below w.heap.size w w' := by
  have HB := Below.refl w.heap.size w
  have hd : decide ((2500 : Int) < (l.length : Int)) = false := by simp; omega
  have Hread := hid Hread; have Hcut := hid Hcut; have Hun := hid Hun; have Hus := hid Hus
  have hnN := numL_len N hN
  have HN := hid hN; clear hN
  have hnD := numL_len D.length (by omega)
  have Hx := hid hX
  have Hsx := hid (show (Try.prog.info? 27).map (·.size) = some G.length by rw [hX]; exact Try.sizeHash)
  have Hsx2 := hid (show (Try.prog.info? 27).map (·.size) = some (hc G).size by rw [hc_size, hX]; exact Try.sizeHash)
  have hz32 : zero32.length = 32 := rfl
  have hs5 := Try.sizeU8
  have hge := Try.guardHash
  go_enter Try.func7, Try.ntmps7
  go_wp2_with (first
    | (go_at_call 17; refine (Hread.out _).mono ?_; rintro e w1 ⟨rfl, hb⟩; replace HB := bch HB hb; clear hb)
    | (go_at_call 19; refine (Hcut.out _).mono ?_; rintro e w2 ⟨rfl, hb⟩; replace HB := bch HB hb; clear hb)
    | (go_at_call 21; refine (Hun.out _).mono ?_; rintro e w3 ⟨rfl, hb⟩; replace HB := bch HB hb; clear hb)
    | ((with_reducible show wpList _ _ _ ({ dst := _, op := Op.store _ _ _, type := _, pos := _, after := _, guard := _ } :: _) _ (World.alloc w3 _))
       refine wpList_store_new (w := w3) rfl 27 _ _ rfl rfl G rfl _ 27 (by rw [Hx.out]; rfl) Hsx.out ?_
       replace HB := Below.alloc HB HB.size (.cells (hc G) 27)
       have HG := Below.refl (w3.alloc (.cells (hc G) 27)).heap.size (w3.alloc (.cells (hc G) 27)))
    | (go_at_call 23; refine (Hus.out _).mono ?_; rintro e w4 ⟨a1, cap1, rfl, HU, hb⟩; replace HB := bch HB hb; replace HG := bch HG hb; clear hb)
    | (go_at_call 11; refine (num_any N _ HN.out).mono ?_; rintro e w5 ⟨rfl, hb⟩; replace HB := bch HB hb; replace HG := bch HG hb; replace HU := HU.below hb (Nat.le_refl _); clear hb)
    | (go_at_call 13; refine (text_any D _ (by omega)).mono ?_; rintro e w6 ⟨rfl, hb⟩; replace HB := bch HB hb; replace HG := bch HG hb; replace HU := HU.below hb (Nat.le_refl _); clear hb)
    | ((with_reducible show wpList _ _ _ ({ dst := _, op := Op.load 27 _, type := _, pos := _, after := _, guard := some (22, true) } :: _) _ _); refine wpList_load_rowG rfl 27 _ rfl w3.heap.size rfl 27 (hc G) (0, 0) _ (blk HG (heap_alloc_new _ _)) Try.underlying27 rfl Hsx2.out ?_)
    | (go_at_call 9; refine (hash_any G _ Hx.out).mono ?_; rintro e w7 ⟨rfl, hb⟩; replace HB := bch HB hb; replace HG := bch HG hb; replace HU := HU.below hb (Nat.le_refl _); clear hb)
    | (go_at_call 8; refine (coded_any _).mono ?_; rintro e w9 ⟨rfl, hb⟩; replace HB := bch HB hb; clear hb))
  go_ret
  exact ⟨rfl, HB⟩
set_option maxHeartbeats 4000000 in
theorem form_1101 (l G R D E  L : List UInt8) (N : Nat) (K : List (List UInt8)) (w : World) (h1' : l.length ≤ 2500)
    (Hread : ∀ w, Calls Try.prog 17 #[sv l] w fun e w' => e = .returned (.tuple #[.int .u64 ((N : Nat) : Int), sv R, .bool true]) ∧ Below w.heap.size w w')
    (Hcut : ∀ w, Calls Try.prog 19 #[sv l] w fun e w' => e = .returned (.tuple #[sv D, sv E, .bool true]) ∧ Below w.heap.size w w')
    (Hun : ∀ w, Calls Try.prog 21 #[sv l] w fun e w' => e = .returned (.tuple #[hv G, sv [], .bool false]) ∧ Below w.heap.size w w')
    (Hus : ∀ w, Calls Try.prog 23 #[sv l] w fun e w' => ∃ a cap, e = .returned (.tuple #[.slice a K.length cap, sv L, .bool true]) ∧ SlAt w' 32 (.slice a K.length cap) (hcs K) ∧ Below w.heap.size w w')
    (hN : N < 18446744073709551616) (hR : R.length ≤ 2500) (c1 : (numL N ++ R == l) = true)
    (hD : D.length ≤ 2500) (hE : E.length ≤ 2500) (f1 : (numL D.length ++ (D ++ E) == l) = true)
    (i1 : (G == zero32) = true)
    (hK : K.length ≤ 64) (hHK : (hashesL K).length ≤ 2500) (hL : L.length ≤ 2500) (m1 : (hashesL K ++ L == l) = true)
    (hX : G.length = 32) : Calls Try.prog 7 #[sv l] w fun e w' => e = .returned (.bool true) ∧ Below w.heap.size w w' := by
  have HB := Below.refl w.heap.size w
  have hd : decide ((2500 : Int) < (l.length : Int)) = false := by simp; omega
  have Hread := hid Hread; have Hcut := hid Hcut; have Hun := hid Hun; have Hus := hid Hus
  have hnN := numL_len N hN
  have HN := hid hN; clear hN
  have hnD := numL_len D.length (by omega)
  have Hx := hid hX
  have Hsx := hid (show (Try.prog.info? 27).map (·.size) = some G.length by rw [hX]; exact Try.sizeHash)
  have Hsx2 := hid (show (Try.prog.info? 27).map (·.size) = some (hc G).size by rw [hc_size, hX]; exact Try.sizeHash)
  have hz32 : zero32.length = 32 := rfl
  have hs5 := Try.sizeU8
  have hge := Try.guardHash
  go_enter Try.func7, Try.ntmps7
  go_wp2_with (first
    | (go_at_call 17; refine (Hread.out _).mono ?_; rintro e w1 ⟨rfl, hb⟩; replace HB := bch HB hb; clear hb)
    | (go_at_call 19; refine (Hcut.out _).mono ?_; rintro e w2 ⟨rfl, hb⟩; replace HB := bch HB hb; clear hb)
    | (go_at_call 21; refine (Hun.out _).mono ?_; rintro e w3 ⟨rfl, hb⟩; replace HB := bch HB hb; clear hb)
    | ((with_reducible show wpList _ _ _ ({ dst := _, op := Op.store _ _ _, type := _, pos := _, after := _, guard := _ } :: _) _ (World.alloc w3 _))
       refine wpList_store_new (w := w3) rfl 27 _ _ rfl rfl G rfl _ 27 (by rw [Hx.out]; rfl) Hsx.out ?_
       replace HB := Below.alloc HB HB.size (.cells (hc G) 27)
       have HG := Below.refl (w3.alloc (.cells (hc G) 27)).heap.size (w3.alloc (.cells (hc G) 27)))
    | (go_at_call 23; refine (Hus.out _).mono ?_; rintro e w4 ⟨a1, cap1, rfl, HU, hb⟩; replace HB := bch HB hb; replace HG := bch HG hb; clear hb)
    | (go_at_call 11; refine (num_any N _ HN.out).mono ?_; rintro e w5 ⟨rfl, hb⟩; replace HB := bch HB hb; replace HG := bch HG hb; replace HU := HU.below hb (Nat.le_refl _); clear hb)
    | (go_at_call 13; refine (text_any D _ (by omega)).mono ?_; rintro e w6 ⟨rfl, hb⟩; replace HB := bch HB hb; replace HG := bch HG hb; replace HU := HU.below hb (Nat.le_refl _); clear hb)
    | ((with_reducible show wpList _ _ _ ({ dst := _, op := Op.load 27 _, type := _, pos := _, after := _, guard := some (22, false) } :: _) _ _); refine wpList_load_rowG rfl 27 _ rfl w3.heap.size rfl 27 (hc G) (0, 0) _ (blk HG (heap_alloc_new _ _)) Try.underlying27 rfl Hsx2.out ?_)
    | (go_at_call 15; refine (hashes_any _ K _ HU (by omega)).mono ?_; rintro e w8 ⟨rfl, hb⟩; replace HB := bch HB hb; replace HG := bch HG hb; clear hb)
    | ((with_reducible show wpList _ _ _ ({ dst := _, op := Op.build _ _, type := _, pos := _, after := _, guard := _ } :: _) _ _); refine wpList_build0 rfl 27 rfl (hv zero32) (Try.zeroHash _) ?_)
    | (go_at_call 8; refine (coded_any _).mono ?_; rintro e w9 ⟨rfl, hb⟩; replace HB := bch HB hb; clear hb))
  go_ret
  exact ⟨rfl, HB⟩
set_option maxHeartbeats 4000000 in
theorem form_1100 (l G R D E   : List UInt8) (N : Nat)  (w : World) (h1' : l.length ≤ 2500)
    (Hread : ∀ w, Calls Try.prog 17 #[sv l] w fun e w' => e = .returned (.tuple #[.int .u64 ((N : Nat) : Int), sv R, .bool true]) ∧ Below w.heap.size w w')
    (Hcut : ∀ w, Calls Try.prog 19 #[sv l] w fun e w' => e = .returned (.tuple #[sv D, sv E, .bool true]) ∧ Below w.heap.size w w')
    (Hun : ∀ w, Calls Try.prog 21 #[sv l] w fun e w' => e = .returned (.tuple #[hv G, sv [], .bool false]) ∧ Below w.heap.size w w')
    (Hus : ∀ w, Calls Try.prog 23 #[sv l] w fun e w' => ∃ a cap, e = .returned (.tuple #[.slice a 0 cap, sv [], .bool false]) ∧ SlAt w' 32 (.slice a 0 cap) (hcs []) ∧ Below w.heap.size w w')
    (hN : N < 18446744073709551616) (hR : R.length ≤ 2500) (c1 : (numL N ++ R == l) = true)
    (hD : D.length ≤ 2500) (hE : E.length ≤ 2500) (f1 : (numL D.length ++ (D ++ E) == l) = true)
    (i1 : (G == zero32) = true)
    (hX : G.length = 32) : Calls Try.prog 7 #[sv l] w fun e w' => e = .returned (.bool true) ∧ Below w.heap.size w w' := by
  have HB := Below.refl w.heap.size w
  have hd : decide ((2500 : Int) < (l.length : Int)) = false := by simp; omega
  have Hread := hid Hread; have Hcut := hid Hcut; have Hun := hid Hun; have Hus := hid Hus
  have hnN := numL_len N hN
  have HN := hid hN; clear hN
  have hnD := numL_len D.length (by omega)
  have Hx := hid hX
  have Hsx := hid (show (Try.prog.info? 27).map (·.size) = some G.length by rw [hX]; exact Try.sizeHash)
  have Hsx2 := hid (show (Try.prog.info? 27).map (·.size) = some (hc G).size by rw [hc_size, hX]; exact Try.sizeHash)
  have hz32 : zero32.length = 32 := rfl
  have hs5 := Try.sizeU8
  have hge := Try.guardHash
  go_enter Try.func7, Try.ntmps7
  go_wp2_with (first
    | (go_at_call 17; refine (Hread.out _).mono ?_; rintro e w1 ⟨rfl, hb⟩; replace HB := bch HB hb; clear hb)
    | (go_at_call 19; refine (Hcut.out _).mono ?_; rintro e w2 ⟨rfl, hb⟩; replace HB := bch HB hb; clear hb)
    | (go_at_call 21; refine (Hun.out _).mono ?_; rintro e w3 ⟨rfl, hb⟩; replace HB := bch HB hb; clear hb)
    | ((with_reducible show wpList _ _ _ ({ dst := _, op := Op.store _ _ _, type := _, pos := _, after := _, guard := _ } :: _) _ (World.alloc w3 _))
       refine wpList_store_new (w := w3) rfl 27 _ _ rfl rfl G rfl _ 27 (by rw [Hx.out]; rfl) Hsx.out ?_
       replace HB := Below.alloc HB HB.size (.cells (hc G) 27)
       have HG := Below.refl (w3.alloc (.cells (hc G) 27)).heap.size (w3.alloc (.cells (hc G) 27)))
    | (go_at_call 23; refine (Hus.out _).mono ?_; rintro e w4 ⟨a1, cap1, rfl, HU, hb⟩; replace HB := bch HB hb; replace HG := bch HG hb; clear hb)
    | (go_at_call 11; refine (num_any N _ HN.out).mono ?_; rintro e w5 ⟨rfl, hb⟩; replace HB := bch HB hb; replace HG := bch HG hb; replace HU := HU.below hb (Nat.le_refl _); clear hb)
    | (go_at_call 13; refine (text_any D _ (by omega)).mono ?_; rintro e w6 ⟨rfl, hb⟩; replace HB := bch HB hb; replace HG := bch HG hb; replace HU := HU.below hb (Nat.le_refl _); clear hb)
    | ((with_reducible show wpList _ _ _ ({ dst := _, op := Op.load 27 _, type := _, pos := _, after := _, guard := some (22, false) } :: _) _ _); refine wpList_load_rowG rfl 27 _ rfl w3.heap.size rfl 27 (hc G) (0, 0) _ (blk HG (heap_alloc_new _ _)) Try.underlying27 rfl Hsx2.out ?_)
    | ((with_reducible show wpList _ _ _ ({ dst := _, op := Op.build _ _, type := _, pos := _, after := _, guard := _ } :: _) _ _); refine wpList_build0 rfl 27 rfl (hv zero32) (Try.zeroHash _) ?_)
    | (go_at_call 8; refine (coded_any _).mono ?_; rintro e w9 ⟨rfl, hb⟩; replace HB := bch HB hb; clear hb))
  go_ret
  exact ⟨rfl, HB⟩
set_option maxHeartbeats 4000000 in
theorem form_1011 (l G R  I L : List UInt8) (N : Nat) (K : List (List UInt8)) (w : World) (h1' : l.length ≤ 2500)
    (Hread : ∀ w, Calls Try.prog 17 #[sv l] w fun e w' => e = .returned (.tuple #[.int .u64 ((N : Nat) : Int), sv R, .bool true]) ∧ Below w.heap.size w w')
    (Hcut : ∀ w, Calls Try.prog 19 #[sv l] w fun e w' => e = .returned (.tuple #[sv [], sv [], .bool false]) ∧ Below w.heap.size w w')
    (Hun : ∀ w, Calls Try.prog 21 #[sv l] w fun e w' => e = .returned (.tuple #[hv G, sv I, .bool true]) ∧ Below w.heap.size w w')
    (Hus : ∀ w, Calls Try.prog 23 #[sv l] w fun e w' => ∃ a cap, e = .returned (.tuple #[.slice a K.length cap, sv L, .bool true]) ∧ SlAt w' 32 (.slice a K.length cap) (hcs K) ∧ Below w.heap.size w w')
    (hN : N < 18446744073709551616) (hR : R.length ≤ 2500) (c1 : (numL N ++ R == l) = true)
    (hI : I.length ≤ 2500) (i1 : (G ++ I == l) = true)
    (hK : K.length ≤ 64) (hHK : (hashesL K).length ≤ 2500) (hL : L.length ≤ 2500) (m1 : (hashesL K ++ L == l) = true)
    (hX : G.length = 32) : Calls Try.prog 7 #[sv l] w fun e w' => e = .returned (.bool true) ∧ Below w.heap.size w w' := by
  have HB := Below.refl w.heap.size w
  have hd : decide ((2500 : Int) < (l.length : Int)) = false := by simp; omega
  have Hread := hid Hread; have Hcut := hid Hcut; have Hun := hid Hun; have Hus := hid Hus
  have hnN := numL_len N hN
  have HN := hid hN; clear hN
  have Hx := hid hX
  have Hsx := hid (show (Try.prog.info? 27).map (·.size) = some G.length by rw [hX]; exact Try.sizeHash)
  have Hsx2 := hid (show (Try.prog.info? 27).map (·.size) = some (hc G).size by rw [hc_size, hX]; exact Try.sizeHash)
  have hz32 : zero32.length = 32 := rfl
  have hs5 := Try.sizeU8
  have hge := Try.guardHash
  go_enter Try.func7, Try.ntmps7
  go_wp2_with (first
    | (go_at_call 17; refine (Hread.out _).mono ?_; rintro e w1 ⟨rfl, hb⟩; replace HB := bch HB hb; clear hb)
    | (go_at_call 19; refine (Hcut.out _).mono ?_; rintro e w2 ⟨rfl, hb⟩; replace HB := bch HB hb; clear hb)
    | (go_at_call 21; refine (Hun.out _).mono ?_; rintro e w3 ⟨rfl, hb⟩; replace HB := bch HB hb; clear hb)
    | ((with_reducible show wpList _ _ _ ({ dst := _, op := Op.store _ _ _, type := _, pos := _, after := _, guard := _ } :: _) _ (World.alloc w3 _))
       refine wpList_store_new (w := w3) rfl 27 _ _ rfl rfl G rfl _ 27 (by rw [Hx.out]; rfl) Hsx.out ?_
       replace HB := Below.alloc HB HB.size (.cells (hc G) 27)
       have HG := Below.refl (w3.alloc (.cells (hc G) 27)).heap.size (w3.alloc (.cells (hc G) 27)))
    | (go_at_call 23; refine (Hus.out _).mono ?_; rintro e w4 ⟨a1, cap1, rfl, HU, hb⟩; replace HB := bch HB hb; replace HG := bch HG hb; clear hb)
    | (go_at_call 11; refine (num_any N _ HN.out).mono ?_; rintro e w5 ⟨rfl, hb⟩; replace HB := bch HB hb; replace HG := bch HG hb; replace HU := HU.below hb (Nat.le_refl _); clear hb)
    | ((with_reducible show wpList _ _ _ ({ dst := _, op := Op.load 27 _, type := _, pos := _, after := _, guard := some (22, true) } :: _) _ _); refine wpList_load_rowG rfl 27 _ rfl w3.heap.size rfl 27 (hc G) (0, 0) _ (blk HG (heap_alloc_new _ _)) Try.underlying27 rfl Hsx2.out ?_)
    | (go_at_call 9; refine (hash_any G _ Hx.out).mono ?_; rintro e w7 ⟨rfl, hb⟩; replace HB := bch HB hb; replace HG := bch HG hb; replace HU := HU.below hb (Nat.le_refl _); clear hb)
    | (go_at_call 15; refine (hashes_any _ K _ HU (by omega)).mono ?_; rintro e w8 ⟨rfl, hb⟩; replace HB := bch HB hb; replace HG := bch HG hb; clear hb)
    | (go_at_call 8; refine (coded_any _).mono ?_; rintro e w9 ⟨rfl, hb⟩; replace HB := bch HB hb; clear hb))
  go_ret
  exact ⟨rfl, HB⟩
set_option maxHeartbeats 4000000 in
theorem form_1010 (l G R  I  : List UInt8) (N : Nat)  (w : World) (h1' : l.length ≤ 2500)
    (Hread : ∀ w, Calls Try.prog 17 #[sv l] w fun e w' => e = .returned (.tuple #[.int .u64 ((N : Nat) : Int), sv R, .bool true]) ∧ Below w.heap.size w w')
    (Hcut : ∀ w, Calls Try.prog 19 #[sv l] w fun e w' => e = .returned (.tuple #[sv [], sv [], .bool false]) ∧ Below w.heap.size w w')
    (Hun : ∀ w, Calls Try.prog 21 #[sv l] w fun e w' => e = .returned (.tuple #[hv G, sv I, .bool true]) ∧ Below w.heap.size w w')
    (Hus : ∀ w, Calls Try.prog 23 #[sv l] w fun e w' => ∃ a cap, e = .returned (.tuple #[.slice a 0 cap, sv [], .bool false]) ∧ SlAt w' 32 (.slice a 0 cap) (hcs []) ∧ Below w.heap.size w w')
    (hN : N < 18446744073709551616) (hR : R.length ≤ 2500) (c1 : (numL N ++ R == l) = true)
    (hI : I.length ≤ 2500) (i1 : (G ++ I == l) = true)
    (hX : G.length = 32) : Calls Try.prog 7 #[sv l] w fun e w' => e = .returned (.bool true) ∧ Below w.heap.size w w' := by
  have HB := Below.refl w.heap.size w
  have hd : decide ((2500 : Int) < (l.length : Int)) = false := by simp; omega
  have Hread := hid Hread; have Hcut := hid Hcut; have Hun := hid Hun; have Hus := hid Hus
  have hnN := numL_len N hN
  have HN := hid hN; clear hN
  have Hx := hid hX
  have Hsx := hid (show (Try.prog.info? 27).map (·.size) = some G.length by rw [hX]; exact Try.sizeHash)
  have Hsx2 := hid (show (Try.prog.info? 27).map (·.size) = some (hc G).size by rw [hc_size, hX]; exact Try.sizeHash)
  have hz32 : zero32.length = 32 := rfl
  have hs5 := Try.sizeU8
  have hge := Try.guardHash
  go_enter Try.func7, Try.ntmps7
  go_wp2_with (first
    | (go_at_call 17; refine (Hread.out _).mono ?_; rintro e w1 ⟨rfl, hb⟩; replace HB := bch HB hb; clear hb)
    | (go_at_call 19; refine (Hcut.out _).mono ?_; rintro e w2 ⟨rfl, hb⟩; replace HB := bch HB hb; clear hb)
    | (go_at_call 21; refine (Hun.out _).mono ?_; rintro e w3 ⟨rfl, hb⟩; replace HB := bch HB hb; clear hb)
    | ((with_reducible show wpList _ _ _ ({ dst := _, op := Op.store _ _ _, type := _, pos := _, after := _, guard := _ } :: _) _ (World.alloc w3 _))
       refine wpList_store_new (w := w3) rfl 27 _ _ rfl rfl G rfl _ 27 (by rw [Hx.out]; rfl) Hsx.out ?_
       replace HB := Below.alloc HB HB.size (.cells (hc G) 27)
       have HG := Below.refl (w3.alloc (.cells (hc G) 27)).heap.size (w3.alloc (.cells (hc G) 27)))
    | (go_at_call 23; refine (Hus.out _).mono ?_; rintro e w4 ⟨a1, cap1, rfl, HU, hb⟩; replace HB := bch HB hb; replace HG := bch HG hb; clear hb)
    | (go_at_call 11; refine (num_any N _ HN.out).mono ?_; rintro e w5 ⟨rfl, hb⟩; replace HB := bch HB hb; replace HG := bch HG hb; replace HU := HU.below hb (Nat.le_refl _); clear hb)
    | ((with_reducible show wpList _ _ _ ({ dst := _, op := Op.load 27 _, type := _, pos := _, after := _, guard := some (22, true) } :: _) _ _); refine wpList_load_rowG rfl 27 _ rfl w3.heap.size rfl 27 (hc G) (0, 0) _ (blk HG (heap_alloc_new _ _)) Try.underlying27 rfl Hsx2.out ?_)
    | (go_at_call 9; refine (hash_any G _ Hx.out).mono ?_; rintro e w7 ⟨rfl, hb⟩; replace HB := bch HB hb; replace HG := bch HG hb; replace HU := HU.below hb (Nat.le_refl _); clear hb)
    | (go_at_call 8; refine (coded_any _).mono ?_; rintro e w9 ⟨rfl, hb⟩; replace HB := bch HB hb; clear hb))
  go_ret
  exact ⟨rfl, HB⟩
set_option maxHeartbeats 4000000 in
theorem form_1001 (l G R   L : List UInt8) (N : Nat) (K : List (List UInt8)) (w : World) (h1' : l.length ≤ 2500)
    (Hread : ∀ w, Calls Try.prog 17 #[sv l] w fun e w' => e = .returned (.tuple #[.int .u64 ((N : Nat) : Int), sv R, .bool true]) ∧ Below w.heap.size w w')
    (Hcut : ∀ w, Calls Try.prog 19 #[sv l] w fun e w' => e = .returned (.tuple #[sv [], sv [], .bool false]) ∧ Below w.heap.size w w')
    (Hun : ∀ w, Calls Try.prog 21 #[sv l] w fun e w' => e = .returned (.tuple #[hv G, sv [], .bool false]) ∧ Below w.heap.size w w')
    (Hus : ∀ w, Calls Try.prog 23 #[sv l] w fun e w' => ∃ a cap, e = .returned (.tuple #[.slice a K.length cap, sv L, .bool true]) ∧ SlAt w' 32 (.slice a K.length cap) (hcs K) ∧ Below w.heap.size w w')
    (hN : N < 18446744073709551616) (hR : R.length ≤ 2500) (c1 : (numL N ++ R == l) = true)
    (i1 : (G == zero32) = true)
    (hK : K.length ≤ 64) (hHK : (hashesL K).length ≤ 2500) (hL : L.length ≤ 2500) (m1 : (hashesL K ++ L == l) = true)
    (hX : G.length = 32) : Calls Try.prog 7 #[sv l] w fun e w' => e = .returned (.bool true) ∧ Below w.heap.size w w' := by
  have HB := Below.refl w.heap.size w
  have hd : decide ((2500 : Int) < (l.length : Int)) = false := by simp; omega
  have Hread := hid Hread; have Hcut := hid Hcut; have Hun := hid Hun; have Hus := hid Hus
  have hnN := numL_len N hN
  have HN := hid hN; clear hN
  have Hx := hid hX
  have Hsx := hid (show (Try.prog.info? 27).map (·.size) = some G.length by rw [hX]; exact Try.sizeHash)
  have Hsx2 := hid (show (Try.prog.info? 27).map (·.size) = some (hc G).size by rw [hc_size, hX]; exact Try.sizeHash)
  have hz32 : zero32.length = 32 := rfl
  have hs5 := Try.sizeU8
  have hge := Try.guardHash
  go_enter Try.func7, Try.ntmps7
  go_wp2_with (first
    | (go_at_call 17; refine (Hread.out _).mono ?_; rintro e w1 ⟨rfl, hb⟩; replace HB := bch HB hb; clear hb)
    | (go_at_call 19; refine (Hcut.out _).mono ?_; rintro e w2 ⟨rfl, hb⟩; replace HB := bch HB hb; clear hb)
    | (go_at_call 21; refine (Hun.out _).mono ?_; rintro e w3 ⟨rfl, hb⟩; replace HB := bch HB hb; clear hb)
    | ((with_reducible show wpList _ _ _ ({ dst := _, op := Op.store _ _ _, type := _, pos := _, after := _, guard := _ } :: _) _ (World.alloc w3 _))
       refine wpList_store_new (w := w3) rfl 27 _ _ rfl rfl G rfl _ 27 (by rw [Hx.out]; rfl) Hsx.out ?_
       replace HB := Below.alloc HB HB.size (.cells (hc G) 27)
       have HG := Below.refl (w3.alloc (.cells (hc G) 27)).heap.size (w3.alloc (.cells (hc G) 27)))
    | (go_at_call 23; refine (Hus.out _).mono ?_; rintro e w4 ⟨a1, cap1, rfl, HU, hb⟩; replace HB := bch HB hb; replace HG := bch HG hb; clear hb)
    | (go_at_call 11; refine (num_any N _ HN.out).mono ?_; rintro e w5 ⟨rfl, hb⟩; replace HB := bch HB hb; replace HG := bch HG hb; replace HU := HU.below hb (Nat.le_refl _); clear hb)
    | ((with_reducible show wpList _ _ _ ({ dst := _, op := Op.load 27 _, type := _, pos := _, after := _, guard := some (22, false) } :: _) _ _); refine wpList_load_rowG rfl 27 _ rfl w3.heap.size rfl 27 (hc G) (0, 0) _ (blk HG (heap_alloc_new _ _)) Try.underlying27 rfl Hsx2.out ?_)
    | (go_at_call 15; refine (hashes_any _ K _ HU (by omega)).mono ?_; rintro e w8 ⟨rfl, hb⟩; replace HB := bch HB hb; replace HG := bch HG hb; clear hb)
    | ((with_reducible show wpList _ _ _ ({ dst := _, op := Op.build _ _, type := _, pos := _, after := _, guard := _ } :: _) _ _); refine wpList_build0 rfl 27 rfl (hv zero32) (Try.zeroHash _) ?_)
    | (go_at_call 8; refine (coded_any _).mono ?_; rintro e w9 ⟨rfl, hb⟩; replace HB := bch HB hb; clear hb))
  go_ret
  exact ⟨rfl, HB⟩
set_option maxHeartbeats 4000000 in
theorem form_1000 (l G R    : List UInt8) (N : Nat)  (w : World) (h1' : l.length ≤ 2500)
    (Hread : ∀ w, Calls Try.prog 17 #[sv l] w fun e w' => e = .returned (.tuple #[.int .u64 ((N : Nat) : Int), sv R, .bool true]) ∧ Below w.heap.size w w')
    (Hcut : ∀ w, Calls Try.prog 19 #[sv l] w fun e w' => e = .returned (.tuple #[sv [], sv [], .bool false]) ∧ Below w.heap.size w w')
    (Hun : ∀ w, Calls Try.prog 21 #[sv l] w fun e w' => e = .returned (.tuple #[hv G, sv [], .bool false]) ∧ Below w.heap.size w w')
    (Hus : ∀ w, Calls Try.prog 23 #[sv l] w fun e w' => ∃ a cap, e = .returned (.tuple #[.slice a 0 cap, sv [], .bool false]) ∧ SlAt w' 32 (.slice a 0 cap) (hcs []) ∧ Below w.heap.size w w')
    (hN : N < 18446744073709551616) (hR : R.length ≤ 2500) (c1 : (numL N ++ R == l) = true)
    (i1 : (G == zero32) = true)
    (hX : G.length = 32) : Calls Try.prog 7 #[sv l] w fun e w' => e = .returned (.bool true) ∧ Below w.heap.size w w' := by
  have HB := Below.refl w.heap.size w
  have hd : decide ((2500 : Int) < (l.length : Int)) = false := by simp; omega
  have Hread := hid Hread; have Hcut := hid Hcut; have Hun := hid Hun; have Hus := hid Hus
  have hnN := numL_len N hN
  have HN := hid hN; clear hN
  have Hx := hid hX
  have Hsx := hid (show (Try.prog.info? 27).map (·.size) = some G.length by rw [hX]; exact Try.sizeHash)
  have Hsx2 := hid (show (Try.prog.info? 27).map (·.size) = some (hc G).size by rw [hc_size, hX]; exact Try.sizeHash)
  have hz32 : zero32.length = 32 := rfl
  have hs5 := Try.sizeU8
  have hge := Try.guardHash
  go_enter Try.func7, Try.ntmps7
  go_wp2_with (first
    | (go_at_call 17; refine (Hread.out _).mono ?_; rintro e w1 ⟨rfl, hb⟩; replace HB := bch HB hb; clear hb)
    | (go_at_call 19; refine (Hcut.out _).mono ?_; rintro e w2 ⟨rfl, hb⟩; replace HB := bch HB hb; clear hb)
    | (go_at_call 21; refine (Hun.out _).mono ?_; rintro e w3 ⟨rfl, hb⟩; replace HB := bch HB hb; clear hb)
    | ((with_reducible show wpList _ _ _ ({ dst := _, op := Op.store _ _ _, type := _, pos := _, after := _, guard := _ } :: _) _ (World.alloc w3 _))
       refine wpList_store_new (w := w3) rfl 27 _ _ rfl rfl G rfl _ 27 (by rw [Hx.out]; rfl) Hsx.out ?_
       replace HB := Below.alloc HB HB.size (.cells (hc G) 27)
       have HG := Below.refl (w3.alloc (.cells (hc G) 27)).heap.size (w3.alloc (.cells (hc G) 27)))
    | (go_at_call 23; refine (Hus.out _).mono ?_; rintro e w4 ⟨a1, cap1, rfl, HU, hb⟩; replace HB := bch HB hb; replace HG := bch HG hb; clear hb)
    | (go_at_call 11; refine (num_any N _ HN.out).mono ?_; rintro e w5 ⟨rfl, hb⟩; replace HB := bch HB hb; replace HG := bch HG hb; replace HU := HU.below hb (Nat.le_refl _); clear hb)
    | ((with_reducible show wpList _ _ _ ({ dst := _, op := Op.load 27 _, type := _, pos := _, after := _, guard := some (22, false) } :: _) _ _); refine wpList_load_rowG rfl 27 _ rfl w3.heap.size rfl 27 (hc G) (0, 0) _ (blk HG (heap_alloc_new _ _)) Try.underlying27 rfl Hsx2.out ?_)
    | ((with_reducible show wpList _ _ _ ({ dst := _, op := Op.build _ _, type := _, pos := _, after := _, guard := _ } :: _) _ _); refine wpList_build0 rfl 27 rfl (hv zero32) (Try.zeroHash _) ?_)
    | (go_at_call 8; refine (coded_any _).mono ?_; rintro e w9 ⟨rfl, hb⟩; replace HB := bch HB hb; clear hb))
  go_ret
  exact ⟨rfl, HB⟩
set_option maxHeartbeats 4000000 in
theorem form_0111 (l G  D E I L : List UInt8)  (K : List (List UInt8)) (w : World) (h1' : l.length ≤ 2500)
    (Hread : ∀ w, Calls Try.prog 17 #[sv l] w fun e w' => e = .returned (.tuple #[.int .u64 0, sv [], .bool false]) ∧ Below w.heap.size w w')
    (Hcut : ∀ w, Calls Try.prog 19 #[sv l] w fun e w' => e = .returned (.tuple #[sv D, sv E, .bool true]) ∧ Below w.heap.size w w')
    (Hun : ∀ w, Calls Try.prog 21 #[sv l] w fun e w' => e = .returned (.tuple #[hv G, sv I, .bool true]) ∧ Below w.heap.size w w')
    (Hus : ∀ w, Calls Try.prog 23 #[sv l] w fun e w' => ∃ a cap, e = .returned (.tuple #[.slice a K.length cap, sv L, .bool true]) ∧ SlAt w' 32 (.slice a K.length cap) (hcs K) ∧ Below w.heap.size w w')
    (hD : D.length ≤ 2500) (hE : E.length ≤ 2500) (f1 : (numL D.length ++ (D ++ E) == l) = true)
    (hI : I.length ≤ 2500) (i1 : (G ++ I == l) = true)
    (hK : K.length ≤ 64) (hHK : (hashesL K).length ≤ 2500) (hL : L.length ≤ 2500) (m1 : (hashesL K ++ L == l) = true)
    (hX : G.length = 32) : Calls Try.prog 7 #[sv l] w fun e w' => e = .returned (.bool true) ∧ Below w.heap.size w w' := by
  have HB := Below.refl w.heap.size w
  have hd : decide ((2500 : Int) < (l.length : Int)) = false := by simp; omega
  have Hread := hid Hread; have Hcut := hid Hcut; have Hun := hid Hun; have Hus := hid Hus
  have hnD := numL_len D.length (by omega)
  have Hx := hid hX
  have Hsx := hid (show (Try.prog.info? 27).map (·.size) = some G.length by rw [hX]; exact Try.sizeHash)
  have Hsx2 := hid (show (Try.prog.info? 27).map (·.size) = some (hc G).size by rw [hc_size, hX]; exact Try.sizeHash)
  have hz32 : zero32.length = 32 := rfl
  have hs5 := Try.sizeU8
  have hge := Try.guardHash
  go_enter Try.func7, Try.ntmps7
  go_wp2_with (first
    | (go_at_call 17; refine (Hread.out _).mono ?_; rintro e w1 ⟨rfl, hb⟩; replace HB := bch HB hb; clear hb)
    | (go_at_call 19; refine (Hcut.out _).mono ?_; rintro e w2 ⟨rfl, hb⟩; replace HB := bch HB hb; clear hb)
    | (go_at_call 21; refine (Hun.out _).mono ?_; rintro e w3 ⟨rfl, hb⟩; replace HB := bch HB hb; clear hb)
    | ((with_reducible show wpList _ _ _ ({ dst := _, op := Op.store _ _ _, type := _, pos := _, after := _, guard := _ } :: _) _ (World.alloc w3 _))
       refine wpList_store_new (w := w3) rfl 27 _ _ rfl rfl G rfl _ 27 (by rw [Hx.out]; rfl) Hsx.out ?_
       replace HB := Below.alloc HB HB.size (.cells (hc G) 27)
       have HG := Below.refl (w3.alloc (.cells (hc G) 27)).heap.size (w3.alloc (.cells (hc G) 27)))
    | (go_at_call 23; refine (Hus.out _).mono ?_; rintro e w4 ⟨a1, cap1, rfl, HU, hb⟩; replace HB := bch HB hb; replace HG := bch HG hb; clear hb)
    | (go_at_call 13; refine (text_any D _ (by omega)).mono ?_; rintro e w6 ⟨rfl, hb⟩; replace HB := bch HB hb; replace HG := bch HG hb; replace HU := HU.below hb (Nat.le_refl _); clear hb)
    | ((with_reducible show wpList _ _ _ ({ dst := _, op := Op.load 27 _, type := _, pos := _, after := _, guard := some (22, true) } :: _) _ _); refine wpList_load_rowG rfl 27 _ rfl w3.heap.size rfl 27 (hc G) (0, 0) _ (blk HG (heap_alloc_new _ _)) Try.underlying27 rfl Hsx2.out ?_)
    | (go_at_call 9; refine (hash_any G _ Hx.out).mono ?_; rintro e w7 ⟨rfl, hb⟩; replace HB := bch HB hb; replace HG := bch HG hb; replace HU := HU.below hb (Nat.le_refl _); clear hb)
    | (go_at_call 15; refine (hashes_any _ K _ HU (by omega)).mono ?_; rintro e w8 ⟨rfl, hb⟩; replace HB := bch HB hb; replace HG := bch HG hb; clear hb)
    | (go_at_call 8; refine (coded_any _).mono ?_; rintro e w9 ⟨rfl, hb⟩; replace HB := bch HB hb; clear hb))
  go_ret
  exact ⟨rfl, HB⟩
set_option maxHeartbeats 4000000 in
theorem form_0110 (l G  D E I  : List UInt8)   (w : World) (h1' : l.length ≤ 2500)
    (Hread : ∀ w, Calls Try.prog 17 #[sv l] w fun e w' => e = .returned (.tuple #[.int .u64 0, sv [], .bool false]) ∧ Below w.heap.size w w')
    (Hcut : ∀ w, Calls Try.prog 19 #[sv l] w fun e w' => e = .returned (.tuple #[sv D, sv E, .bool true]) ∧ Below w.heap.size w w')
    (Hun : ∀ w, Calls Try.prog 21 #[sv l] w fun e w' => e = .returned (.tuple #[hv G, sv I, .bool true]) ∧ Below w.heap.size w w')
    (Hus : ∀ w, Calls Try.prog 23 #[sv l] w fun e w' => ∃ a cap, e = .returned (.tuple #[.slice a 0 cap, sv [], .bool false]) ∧ SlAt w' 32 (.slice a 0 cap) (hcs []) ∧ Below w.heap.size w w')
    (hD : D.length ≤ 2500) (hE : E.length ≤ 2500) (f1 : (numL D.length ++ (D ++ E) == l) = true)
    (hI : I.length ≤ 2500) (i1 : (G ++ I == l) = true)
    (hX : G.length = 32) : Calls Try.prog 7 #[sv l] w fun e w' => e = .returned (.bool true) ∧ Below w.heap.size w w' := by
  have HB := Below.refl w.heap.size w
  have hd : decide ((2500 : Int) < (l.length : Int)) = false := by simp; omega
  have Hread := hid Hread; have Hcut := hid Hcut; have Hun := hid Hun; have Hus := hid Hus
  have hnD := numL_len D.length (by omega)
  have Hx := hid hX
  have Hsx := hid (show (Try.prog.info? 27).map (·.size) = some G.length by rw [hX]; exact Try.sizeHash)
  have Hsx2 := hid (show (Try.prog.info? 27).map (·.size) = some (hc G).size by rw [hc_size, hX]; exact Try.sizeHash)
  have hz32 : zero32.length = 32 := rfl
  have hs5 := Try.sizeU8
  have hge := Try.guardHash
  go_enter Try.func7, Try.ntmps7
  go_wp2_with (first
    | (go_at_call 17; refine (Hread.out _).mono ?_; rintro e w1 ⟨rfl, hb⟩; replace HB := bch HB hb; clear hb)
    | (go_at_call 19; refine (Hcut.out _).mono ?_; rintro e w2 ⟨rfl, hb⟩; replace HB := bch HB hb; clear hb)
    | (go_at_call 21; refine (Hun.out _).mono ?_; rintro e w3 ⟨rfl, hb⟩; replace HB := bch HB hb; clear hb)
    | ((with_reducible show wpList _ _ _ ({ dst := _, op := Op.store _ _ _, type := _, pos := _, after := _, guard := _ } :: _) _ (World.alloc w3 _))
       refine wpList_store_new (w := w3) rfl 27 _ _ rfl rfl G rfl _ 27 (by rw [Hx.out]; rfl) Hsx.out ?_
       replace HB := Below.alloc HB HB.size (.cells (hc G) 27)
       have HG := Below.refl (w3.alloc (.cells (hc G) 27)).heap.size (w3.alloc (.cells (hc G) 27)))
    | (go_at_call 23; refine (Hus.out _).mono ?_; rintro e w4 ⟨a1, cap1, rfl, HU, hb⟩; replace HB := bch HB hb; replace HG := bch HG hb; clear hb)
    | (go_at_call 13; refine (text_any D _ (by omega)).mono ?_; rintro e w6 ⟨rfl, hb⟩; replace HB := bch HB hb; replace HG := bch HG hb; replace HU := HU.below hb (Nat.le_refl _); clear hb)
    | ((with_reducible show wpList _ _ _ ({ dst := _, op := Op.load 27 _, type := _, pos := _, after := _, guard := some (22, true) } :: _) _ _); refine wpList_load_rowG rfl 27 _ rfl w3.heap.size rfl 27 (hc G) (0, 0) _ (blk HG (heap_alloc_new _ _)) Try.underlying27 rfl Hsx2.out ?_)
    | (go_at_call 9; refine (hash_any G _ Hx.out).mono ?_; rintro e w7 ⟨rfl, hb⟩; replace HB := bch HB hb; replace HG := bch HG hb; replace HU := HU.below hb (Nat.le_refl _); clear hb)
    | (go_at_call 8; refine (coded_any _).mono ?_; rintro e w9 ⟨rfl, hb⟩; replace HB := bch HB hb; clear hb))
  go_ret
  exact ⟨rfl, HB⟩
set_option maxHeartbeats 4000000 in
theorem form_0101 (l G  D E  L : List UInt8)  (K : List (List UInt8)) (w : World) (h1' : l.length ≤ 2500)
    (Hread : ∀ w, Calls Try.prog 17 #[sv l] w fun e w' => e = .returned (.tuple #[.int .u64 0, sv [], .bool false]) ∧ Below w.heap.size w w')
    (Hcut : ∀ w, Calls Try.prog 19 #[sv l] w fun e w' => e = .returned (.tuple #[sv D, sv E, .bool true]) ∧ Below w.heap.size w w')
    (Hun : ∀ w, Calls Try.prog 21 #[sv l] w fun e w' => e = .returned (.tuple #[hv G, sv [], .bool false]) ∧ Below w.heap.size w w')
    (Hus : ∀ w, Calls Try.prog 23 #[sv l] w fun e w' => ∃ a cap, e = .returned (.tuple #[.slice a K.length cap, sv L, .bool true]) ∧ SlAt w' 32 (.slice a K.length cap) (hcs K) ∧ Below w.heap.size w w')
    (hD : D.length ≤ 2500) (hE : E.length ≤ 2500) (f1 : (numL D.length ++ (D ++ E) == l) = true)
    (i1 : (G == zero32) = true)
    (hK : K.length ≤ 64) (hHK : (hashesL K).length ≤ 2500) (hL : L.length ≤ 2500) (m1 : (hashesL K ++ L == l) = true)
    (hX : G.length = 32) : Calls Try.prog 7 #[sv l] w fun e w' => e = .returned (.bool true) ∧ Below w.heap.size w w' := by
  have HB := Below.refl w.heap.size w
  have hd : decide ((2500 : Int) < (l.length : Int)) = false := by simp; omega
  have Hread := hid Hread; have Hcut := hid Hcut; have Hun := hid Hun; have Hus := hid Hus
  have hnD := numL_len D.length (by omega)
  have Hx := hid hX
  have Hsx := hid (show (Try.prog.info? 27).map (·.size) = some G.length by rw [hX]; exact Try.sizeHash)
  have Hsx2 := hid (show (Try.prog.info? 27).map (·.size) = some (hc G).size by rw [hc_size, hX]; exact Try.sizeHash)
  have hz32 : zero32.length = 32 := rfl
  have hs5 := Try.sizeU8
  have hge := Try.guardHash
  go_enter Try.func7, Try.ntmps7
  go_wp2_with (first
    | (go_at_call 17; refine (Hread.out _).mono ?_; rintro e w1 ⟨rfl, hb⟩; replace HB := bch HB hb; clear hb)
    | (go_at_call 19; refine (Hcut.out _).mono ?_; rintro e w2 ⟨rfl, hb⟩; replace HB := bch HB hb; clear hb)
    | (go_at_call 21; refine (Hun.out _).mono ?_; rintro e w3 ⟨rfl, hb⟩; replace HB := bch HB hb; clear hb)
    | ((with_reducible show wpList _ _ _ ({ dst := _, op := Op.store _ _ _, type := _, pos := _, after := _, guard := _ } :: _) _ (World.alloc w3 _))
       refine wpList_store_new (w := w3) rfl 27 _ _ rfl rfl G rfl _ 27 (by rw [Hx.out]; rfl) Hsx.out ?_
       replace HB := Below.alloc HB HB.size (.cells (hc G) 27)
       have HG := Below.refl (w3.alloc (.cells (hc G) 27)).heap.size (w3.alloc (.cells (hc G) 27)))
    | (go_at_call 23; refine (Hus.out _).mono ?_; rintro e w4 ⟨a1, cap1, rfl, HU, hb⟩; replace HB := bch HB hb; replace HG := bch HG hb; clear hb)
    | (go_at_call 13; refine (text_any D _ (by omega)).mono ?_; rintro e w6 ⟨rfl, hb⟩; replace HB := bch HB hb; replace HG := bch HG hb; replace HU := HU.below hb (Nat.le_refl _); clear hb)
    | ((with_reducible show wpList _ _ _ ({ dst := _, op := Op.load 27 _, type := _, pos := _, after := _, guard := some (22, false) } :: _) _ _); refine wpList_load_rowG rfl 27 _ rfl w3.heap.size rfl 27 (hc G) (0, 0) _ (blk HG (heap_alloc_new _ _)) Try.underlying27 rfl Hsx2.out ?_)
    | (go_at_call 15; refine (hashes_any _ K _ HU (by omega)).mono ?_; rintro e w8 ⟨rfl, hb⟩; replace HB := bch HB hb; replace HG := bch HG hb; clear hb)
    | ((with_reducible show wpList _ _ _ ({ dst := _, op := Op.build _ _, type := _, pos := _, after := _, guard := _ } :: _) _ _); refine wpList_build0 rfl 27 rfl (hv zero32) (Try.zeroHash _) ?_)
    | (go_at_call 8; refine (coded_any _).mono ?_; rintro e w9 ⟨rfl, hb⟩; replace HB := bch HB hb; clear hb))
  go_ret
  exact ⟨rfl, HB⟩
set_option maxHeartbeats 4000000 in
theorem form_0100 (l G  D E   : List UInt8)   (w : World) (h1' : l.length ≤ 2500)
    (Hread : ∀ w, Calls Try.prog 17 #[sv l] w fun e w' => e = .returned (.tuple #[.int .u64 0, sv [], .bool false]) ∧ Below w.heap.size w w')
    (Hcut : ∀ w, Calls Try.prog 19 #[sv l] w fun e w' => e = .returned (.tuple #[sv D, sv E, .bool true]) ∧ Below w.heap.size w w')
    (Hun : ∀ w, Calls Try.prog 21 #[sv l] w fun e w' => e = .returned (.tuple #[hv G, sv [], .bool false]) ∧ Below w.heap.size w w')
    (Hus : ∀ w, Calls Try.prog 23 #[sv l] w fun e w' => ∃ a cap, e = .returned (.tuple #[.slice a 0 cap, sv [], .bool false]) ∧ SlAt w' 32 (.slice a 0 cap) (hcs []) ∧ Below w.heap.size w w')
    (hD : D.length ≤ 2500) (hE : E.length ≤ 2500) (f1 : (numL D.length ++ (D ++ E) == l) = true)
    (i1 : (G == zero32) = true)
    (hX : G.length = 32) : Calls Try.prog 7 #[sv l] w fun e w' => e = .returned (.bool true) ∧ Below w.heap.size w w' := by
  have HB := Below.refl w.heap.size w
  have hd : decide ((2500 : Int) < (l.length : Int)) = false := by simp; omega
  have Hread := hid Hread; have Hcut := hid Hcut; have Hun := hid Hun; have Hus := hid Hus
  have hnD := numL_len D.length (by omega)
  have Hx := hid hX
  have Hsx := hid (show (Try.prog.info? 27).map (·.size) = some G.length by rw [hX]; exact Try.sizeHash)
  have Hsx2 := hid (show (Try.prog.info? 27).map (·.size) = some (hc G).size by rw [hc_size, hX]; exact Try.sizeHash)
  have hz32 : zero32.length = 32 := rfl
  have hs5 := Try.sizeU8
  have hge := Try.guardHash
  go_enter Try.func7, Try.ntmps7
  go_wp2_with (first
    | (go_at_call 17; refine (Hread.out _).mono ?_; rintro e w1 ⟨rfl, hb⟩; replace HB := bch HB hb; clear hb)
    | (go_at_call 19; refine (Hcut.out _).mono ?_; rintro e w2 ⟨rfl, hb⟩; replace HB := bch HB hb; clear hb)
    | (go_at_call 21; refine (Hun.out _).mono ?_; rintro e w3 ⟨rfl, hb⟩; replace HB := bch HB hb; clear hb)
    | ((with_reducible show wpList _ _ _ ({ dst := _, op := Op.store _ _ _, type := _, pos := _, after := _, guard := _ } :: _) _ (World.alloc w3 _))
       refine wpList_store_new (w := w3) rfl 27 _ _ rfl rfl G rfl _ 27 (by rw [Hx.out]; rfl) Hsx.out ?_
       replace HB := Below.alloc HB HB.size (.cells (hc G) 27)
       have HG := Below.refl (w3.alloc (.cells (hc G) 27)).heap.size (w3.alloc (.cells (hc G) 27)))
    | (go_at_call 23; refine (Hus.out _).mono ?_; rintro e w4 ⟨a1, cap1, rfl, HU, hb⟩; replace HB := bch HB hb; replace HG := bch HG hb; clear hb)
    | (go_at_call 13; refine (text_any D _ (by omega)).mono ?_; rintro e w6 ⟨rfl, hb⟩; replace HB := bch HB hb; replace HG := bch HG hb; replace HU := HU.below hb (Nat.le_refl _); clear hb)
    | ((with_reducible show wpList _ _ _ ({ dst := _, op := Op.load 27 _, type := _, pos := _, after := _, guard := some (22, false) } :: _) _ _); refine wpList_load_rowG rfl 27 _ rfl w3.heap.size rfl 27 (hc G) (0, 0) _ (blk HG (heap_alloc_new _ _)) Try.underlying27 rfl Hsx2.out ?_)
    | ((with_reducible show wpList _ _ _ ({ dst := _, op := Op.build _ _, type := _, pos := _, after := _, guard := _ } :: _) _ _); refine wpList_build0 rfl 27 rfl (hv zero32) (Try.zeroHash _) ?_)
    | (go_at_call 8; refine (coded_any _).mono ?_; rintro e w9 ⟨rfl, hb⟩; replace HB := bch HB hb; clear hb))
  go_ret
  exact ⟨rfl, HB⟩
set_option maxHeartbeats 4000000 in
theorem form_0011 (l G   I L : List UInt8)  (K : List (List UInt8)) (w : World) (h1' : l.length ≤ 2500)
    (Hread : ∀ w, Calls Try.prog 17 #[sv l] w fun e w' => e = .returned (.tuple #[.int .u64 0, sv [], .bool false]) ∧ Below w.heap.size w w')
    (Hcut : ∀ w, Calls Try.prog 19 #[sv l] w fun e w' => e = .returned (.tuple #[sv [], sv [], .bool false]) ∧ Below w.heap.size w w')
    (Hun : ∀ w, Calls Try.prog 21 #[sv l] w fun e w' => e = .returned (.tuple #[hv G, sv I, .bool true]) ∧ Below w.heap.size w w')
    (Hus : ∀ w, Calls Try.prog 23 #[sv l] w fun e w' => ∃ a cap, e = .returned (.tuple #[.slice a K.length cap, sv L, .bool true]) ∧ SlAt w' 32 (.slice a K.length cap) (hcs K) ∧ Below w.heap.size w w')
    (hI : I.length ≤ 2500) (i1 : (G ++ I == l) = true)
    (hK : K.length ≤ 64) (hHK : (hashesL K).length ≤ 2500) (hL : L.length ≤ 2500) (m1 : (hashesL K ++ L == l) = true)
    (hX : G.length = 32) : Calls Try.prog 7 #[sv l] w fun e w' => e = .returned (.bool true) ∧ Below w.heap.size w w' := by
  have HB := Below.refl w.heap.size w
  have hd : decide ((2500 : Int) < (l.length : Int)) = false := by simp; omega
  have Hread := hid Hread; have Hcut := hid Hcut; have Hun := hid Hun; have Hus := hid Hus
  have Hx := hid hX
  have Hsx := hid (show (Try.prog.info? 27).map (·.size) = some G.length by rw [hX]; exact Try.sizeHash)
  have Hsx2 := hid (show (Try.prog.info? 27).map (·.size) = some (hc G).size by rw [hc_size, hX]; exact Try.sizeHash)
  have hz32 : zero32.length = 32 := rfl
  have hs5 := Try.sizeU8
  have hge := Try.guardHash
  go_enter Try.func7, Try.ntmps7
  go_wp2_with (first
    | (go_at_call 17; refine (Hread.out _).mono ?_; rintro e w1 ⟨rfl, hb⟩; replace HB := bch HB hb; clear hb)
    | (go_at_call 19; refine (Hcut.out _).mono ?_; rintro e w2 ⟨rfl, hb⟩; replace HB := bch HB hb; clear hb)
    | (go_at_call 21; refine (Hun.out _).mono ?_; rintro e w3 ⟨rfl, hb⟩; replace HB := bch HB hb; clear hb)
    | ((with_reducible show wpList _ _ _ ({ dst := _, op := Op.store _ _ _, type := _, pos := _, after := _, guard := _ } :: _) _ (World.alloc w3 _))
       refine wpList_store_new (w := w3) rfl 27 _ _ rfl rfl G rfl _ 27 (by rw [Hx.out]; rfl) Hsx.out ?_
       replace HB := Below.alloc HB HB.size (.cells (hc G) 27)
       have HG := Below.refl (w3.alloc (.cells (hc G) 27)).heap.size (w3.alloc (.cells (hc G) 27)))
    | (go_at_call 23; refine (Hus.out _).mono ?_; rintro e w4 ⟨a1, cap1, rfl, HU, hb⟩; replace HB := bch HB hb; replace HG := bch HG hb; clear hb)
    | ((with_reducible show wpList _ _ _ ({ dst := _, op := Op.load 27 _, type := _, pos := _, after := _, guard := some (22, true) } :: _) _ _); refine wpList_load_rowG rfl 27 _ rfl w3.heap.size rfl 27 (hc G) (0, 0) _ (blk HG (heap_alloc_new _ _)) Try.underlying27 rfl Hsx2.out ?_)
    | (go_at_call 9; refine (hash_any G _ Hx.out).mono ?_; rintro e w7 ⟨rfl, hb⟩; replace HB := bch HB hb; replace HG := bch HG hb; replace HU := HU.below hb (Nat.le_refl _); clear hb)
    | (go_at_call 15; refine (hashes_any _ K _ HU (by omega)).mono ?_; rintro e w8 ⟨rfl, hb⟩; replace HB := bch HB hb; replace HG := bch HG hb; clear hb)
    | (go_at_call 8; refine (coded_any _).mono ?_; rintro e w9 ⟨rfl, hb⟩; replace HB := bch HB hb; clear hb))
  go_ret
  exact ⟨rfl, HB⟩
set_option maxHeartbeats 4000000 in
theorem form_0010 (l G   I  : List UInt8)   (w : World) (h1' : l.length ≤ 2500)
    (Hread : ∀ w, Calls Try.prog 17 #[sv l] w fun e w' => e = .returned (.tuple #[.int .u64 0, sv [], .bool false]) ∧ Below w.heap.size w w')
    (Hcut : ∀ w, Calls Try.prog 19 #[sv l] w fun e w' => e = .returned (.tuple #[sv [], sv [], .bool false]) ∧ Below w.heap.size w w')
    (Hun : ∀ w, Calls Try.prog 21 #[sv l] w fun e w' => e = .returned (.tuple #[hv G, sv I, .bool true]) ∧ Below w.heap.size w w')
    (Hus : ∀ w, Calls Try.prog 23 #[sv l] w fun e w' => ∃ a cap, e = .returned (.tuple #[.slice a 0 cap, sv [], .bool false]) ∧ SlAt w' 32 (.slice a 0 cap) (hcs []) ∧ Below w.heap.size w w')
    (hI : I.length ≤ 2500) (i1 : (G ++ I == l) = true)
    (hX : G.length = 32) : Calls Try.prog 7 #[sv l] w fun e w' => e = .returned (.bool true) ∧ Below w.heap.size w w' := by
  have HB := Below.refl w.heap.size w
  have hd : decide ((2500 : Int) < (l.length : Int)) = false := by simp; omega
  have Hread := hid Hread; have Hcut := hid Hcut; have Hun := hid Hun; have Hus := hid Hus
  have Hx := hid hX
  have Hsx := hid (show (Try.prog.info? 27).map (·.size) = some G.length by rw [hX]; exact Try.sizeHash)
  have Hsx2 := hid (show (Try.prog.info? 27).map (·.size) = some (hc G).size by rw [hc_size, hX]; exact Try.sizeHash)
  have hz32 : zero32.length = 32 := rfl
  have hs5 := Try.sizeU8
  have hge := Try.guardHash
  go_enter Try.func7, Try.ntmps7
  go_wp2_with (first
    | (go_at_call 17; refine (Hread.out _).mono ?_; rintro e w1 ⟨rfl, hb⟩; replace HB := bch HB hb; clear hb)
    | (go_at_call 19; refine (Hcut.out _).mono ?_; rintro e w2 ⟨rfl, hb⟩; replace HB := bch HB hb; clear hb)
    | (go_at_call 21; refine (Hun.out _).mono ?_; rintro e w3 ⟨rfl, hb⟩; replace HB := bch HB hb; clear hb)
    | ((with_reducible show wpList _ _ _ ({ dst := _, op := Op.store _ _ _, type := _, pos := _, after := _, guard := _ } :: _) _ (World.alloc w3 _))
       refine wpList_store_new (w := w3) rfl 27 _ _ rfl rfl G rfl _ 27 (by rw [Hx.out]; rfl) Hsx.out ?_
       replace HB := Below.alloc HB HB.size (.cells (hc G) 27)
       have HG := Below.refl (w3.alloc (.cells (hc G) 27)).heap.size (w3.alloc (.cells (hc G) 27)))
    | (go_at_call 23; refine (Hus.out _).mono ?_; rintro e w4 ⟨a1, cap1, rfl, HU, hb⟩; replace HB := bch HB hb; replace HG := bch HG hb; clear hb)
    | ((with_reducible show wpList _ _ _ ({ dst := _, op := Op.load 27 _, type := _, pos := _, after := _, guard := some (22, true) } :: _) _ _); refine wpList_load_rowG rfl 27 _ rfl w3.heap.size rfl 27 (hc G) (0, 0) _ (blk HG (heap_alloc_new _ _)) Try.underlying27 rfl Hsx2.out ?_)
    | (go_at_call 9; refine (hash_any G _ Hx.out).mono ?_; rintro e w7 ⟨rfl, hb⟩; replace HB := bch HB hb; replace HG := bch HG hb; replace HU := HU.below hb (Nat.le_refl _); clear hb)
    | (go_at_call 8; refine (coded_any _).mono ?_; rintro e w9 ⟨rfl, hb⟩; replace HB := bch HB hb; clear hb))
  go_ret
  exact ⟨rfl, HB⟩
set_option maxHeartbeats 4000000 in
theorem form_0001 (l G    L : List UInt8)  (K : List (List UInt8)) (w : World) (h1' : l.length ≤ 2500)
    (Hread : ∀ w, Calls Try.prog 17 #[sv l] w fun e w' => e = .returned (.tuple #[.int .u64 0, sv [], .bool false]) ∧ Below w.heap.size w w')
    (Hcut : ∀ w, Calls Try.prog 19 #[sv l] w fun e w' => e = .returned (.tuple #[sv [], sv [], .bool false]) ∧ Below w.heap.size w w')
    (Hun : ∀ w, Calls Try.prog 21 #[sv l] w fun e w' => e = .returned (.tuple #[hv G, sv [], .bool false]) ∧ Below w.heap.size w w')
    (Hus : ∀ w, Calls Try.prog 23 #[sv l] w fun e w' => ∃ a cap, e = .returned (.tuple #[.slice a K.length cap, sv L, .bool true]) ∧ SlAt w' 32 (.slice a K.length cap) (hcs K) ∧ Below w.heap.size w w')
    (i1 : (G == zero32) = true)
    (hK : K.length ≤ 64) (hHK : (hashesL K).length ≤ 2500) (hL : L.length ≤ 2500) (m1 : (hashesL K ++ L == l) = true)
    (hX : G.length = 32) : Calls Try.prog 7 #[sv l] w fun e w' => e = .returned (.bool true) ∧ Below w.heap.size w w' := by
  have HB := Below.refl w.heap.size w
  have hd : decide ((2500 : Int) < (l.length : Int)) = false := by simp; omega
  have Hread := hid Hread; have Hcut := hid Hcut; have Hun := hid Hun; have Hus := hid Hus
  have Hx := hid hX
  have Hsx := hid (show (Try.prog.info? 27).map (·.size) = some G.length by rw [hX]; exact Try.sizeHash)
  have Hsx2 := hid (show (Try.prog.info? 27).map (·.size) = some (hc G).size by rw [hc_size, hX]; exact Try.sizeHash)
  have hz32 : zero32.length = 32 := rfl
  have hs5 := Try.sizeU8
  have hge := Try.guardHash
  go_enter Try.func7, Try.ntmps7
  go_wp2_with (first
    | (go_at_call 17; refine (Hread.out _).mono ?_; rintro e w1 ⟨rfl, hb⟩; replace HB := bch HB hb; clear hb)
    | (go_at_call 19; refine (Hcut.out _).mono ?_; rintro e w2 ⟨rfl, hb⟩; replace HB := bch HB hb; clear hb)
    | (go_at_call 21; refine (Hun.out _).mono ?_; rintro e w3 ⟨rfl, hb⟩; replace HB := bch HB hb; clear hb)
    | ((with_reducible show wpList _ _ _ ({ dst := _, op := Op.store _ _ _, type := _, pos := _, after := _, guard := _ } :: _) _ (World.alloc w3 _))
       refine wpList_store_new (w := w3) rfl 27 _ _ rfl rfl G rfl _ 27 (by rw [Hx.out]; rfl) Hsx.out ?_
       replace HB := Below.alloc HB HB.size (.cells (hc G) 27)
       have HG := Below.refl (w3.alloc (.cells (hc G) 27)).heap.size (w3.alloc (.cells (hc G) 27)))
    | (go_at_call 23; refine (Hus.out _).mono ?_; rintro e w4 ⟨a1, cap1, rfl, HU, hb⟩; replace HB := bch HB hb; replace HG := bch HG hb; clear hb)
    | ((with_reducible show wpList _ _ _ ({ dst := _, op := Op.load 27 _, type := _, pos := _, after := _, guard := some (22, false) } :: _) _ _); refine wpList_load_rowG rfl 27 _ rfl w3.heap.size rfl 27 (hc G) (0, 0) _ (blk HG (heap_alloc_new _ _)) Try.underlying27 rfl Hsx2.out ?_)
    | (go_at_call 15; refine (hashes_any _ K _ HU (by omega)).mono ?_; rintro e w8 ⟨rfl, hb⟩; replace HB := bch HB hb; replace HG := bch HG hb; clear hb)
    | ((with_reducible show wpList _ _ _ ({ dst := _, op := Op.build _ _, type := _, pos := _, after := _, guard := _ } :: _) _ _); refine wpList_build0 rfl 27 rfl (hv zero32) (Try.zeroHash _) ?_)
    | (go_at_call 8; refine (coded_any _).mono ?_; rintro e w9 ⟨rfl, hb⟩; replace HB := bch HB hb; clear hb))
  go_ret
  exact ⟨rfl, HB⟩
set_option maxHeartbeats 4000000 in
theorem form_0000 (l G     : List UInt8)   (w : World) (h1' : l.length ≤ 2500)
    (Hread : ∀ w, Calls Try.prog 17 #[sv l] w fun e w' => e = .returned (.tuple #[.int .u64 0, sv [], .bool false]) ∧ Below w.heap.size w w')
    (Hcut : ∀ w, Calls Try.prog 19 #[sv l] w fun e w' => e = .returned (.tuple #[sv [], sv [], .bool false]) ∧ Below w.heap.size w w')
    (Hun : ∀ w, Calls Try.prog 21 #[sv l] w fun e w' => e = .returned (.tuple #[hv G, sv [], .bool false]) ∧ Below w.heap.size w w')
    (Hus : ∀ w, Calls Try.prog 23 #[sv l] w fun e w' => ∃ a cap, e = .returned (.tuple #[.slice a 0 cap, sv [], .bool false]) ∧ SlAt w' 32 (.slice a 0 cap) (hcs []) ∧ Below w.heap.size w w')
    (i1 : (G == zero32) = true)
    (hX : G.length = 32) : Calls Try.prog 7 #[sv l] w fun e w' => e = .returned (.bool true) ∧ Below w.heap.size w w' := by
  have HB := Below.refl w.heap.size w
  have hd : decide ((2500 : Int) < (l.length : Int)) = false := by simp; omega
  have Hread := hid Hread; have Hcut := hid Hcut; have Hun := hid Hun; have Hus := hid Hus
  have Hx := hid hX
  have Hsx := hid (show (Try.prog.info? 27).map (·.size) = some G.length by rw [hX]; exact Try.sizeHash)
  have Hsx2 := hid (show (Try.prog.info? 27).map (·.size) = some (hc G).size by rw [hc_size, hX]; exact Try.sizeHash)
  have hz32 : zero32.length = 32 := rfl
  have hs5 := Try.sizeU8
  have hge := Try.guardHash
  go_enter Try.func7, Try.ntmps7
  go_wp2_with (first
    | (go_at_call 17; refine (Hread.out _).mono ?_; rintro e w1 ⟨rfl, hb⟩; replace HB := bch HB hb; clear hb)
    | (go_at_call 19; refine (Hcut.out _).mono ?_; rintro e w2 ⟨rfl, hb⟩; replace HB := bch HB hb; clear hb)
    | (go_at_call 21; refine (Hun.out _).mono ?_; rintro e w3 ⟨rfl, hb⟩; replace HB := bch HB hb; clear hb)
    | ((with_reducible show wpList _ _ _ ({ dst := _, op := Op.store _ _ _, type := _, pos := _, after := _, guard := _ } :: _) _ (World.alloc w3 _))
       refine wpList_store_new (w := w3) rfl 27 _ _ rfl rfl G rfl _ 27 (by rw [Hx.out]; rfl) Hsx.out ?_
       replace HB := Below.alloc HB HB.size (.cells (hc G) 27)
       have HG := Below.refl (w3.alloc (.cells (hc G) 27)).heap.size (w3.alloc (.cells (hc G) 27)))
    | (go_at_call 23; refine (Hus.out _).mono ?_; rintro e w4 ⟨a1, cap1, rfl, HU, hb⟩; replace HB := bch HB hb; replace HG := bch HG hb; clear hb)
    | ((with_reducible show wpList _ _ _ ({ dst := _, op := Op.load 27 _, type := _, pos := _, after := _, guard := some (22, false) } :: _) _ _); refine wpList_load_rowG rfl 27 _ rfl w3.heap.size rfl 27 (hc G) (0, 0) _ (blk HG (heap_alloc_new _ _)) Try.underlying27 rfl Hsx2.out ?_)
    | ((with_reducible show wpList _ _ _ ({ dst := _, op := Op.build _ _, type := _, pos := _, after := _, guard := _ } :: _) _ _); refine wpList_build0 rfl 27 rfl (hv zero32) (Try.zeroHash _) ?_)
    | (go_at_call 8; refine (coded_any _).mono ?_; rintro e w9 ⟨rfl, hb⟩; replace HB := bch HB hb; clear hb))
  go_ret
  exact ⟨rfl, HB⟩
end Go.Proofs.Ytnfblddoafhdlaa

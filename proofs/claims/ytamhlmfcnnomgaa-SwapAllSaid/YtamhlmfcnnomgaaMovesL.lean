/- The walk of the iterator over the moves of a later round. -/
import Derived.Test.YtamhlmfcnnomgaaMovesW
namespace Go.Proofs.Ytamhlmfcnnomgaa
open Go.RowKit Go.Shelf
set_option linter.unusedVariables false

theorem i64_xor_nat (a b : Nat) (ha : a < 9223372036854775808) (hb : b < 9223372036854775808) : bits .xor .i64 (a : Int) (b : Int) = ((a ^^^ b : Nat) : Int) := by
  show IntKind.i64.wrap ((BitVec.ofInt 64 (a : Int) ^^^ BitVec.ofInt 64 (b : Int)).toNat : Int) = _
  have e1 : (BitVec.ofInt 64 (a : Int)).toNat = a := by rw [BitVec.ofInt_natCast, BitVec.toNat_ofNat]; exact Nat.mod_eq_of_lt (by omega)
  have e2 : (BitVec.ofInt 64 (b : Int)).toNat = b := by rw [BitVec.ofInt_natCast, BitVec.toNat_ofNat]; exact Nat.mod_eq_of_lt (by omega)
  have h : a ^^^ b < 9223372036854775808 := Nat.xor_lt_two_pow (n := 63) ha hb
  rw [BitVec.toNat_xor, e1, e2, IntKind.wrap_i64]
  generalize a ^^^ b = c at h ⊢
  omega
theorem xor_eq (k X f : Nat) (hk : k < 64) (hX : X < 128) (hf : k ^^^ X = f) : bits .xor .i64 (k : Int) (X : Int) = (f : Int) := by
  rw [i64_xor_nat _ _ (by omega) (by omega), hf]
theorem xor_ne (k X : Nat) (h : 0 < X) : k ^^^ X ≠ k := fun e => by
  have h2 : k ^^^ (k ^^^ X) = k ^^^ k := by rw [e]
  rw [← Nat.xor_assoc, Nat.xor_self, Nat.zero_xor] at h2
  omega

set_option maxRecDepth 100000 in
set_option maxHeartbeats 4000000 in
theorem moves_later (p s r b1 b2 : Nat) (h1 : 1 ≤ p) (h2 : p ≤ 64) (h3 : s ≤ 4096) (hr1 : 1 ≤ r) (hrp : r ≤ Nat.log2 p) :
    Gives Try.prog 38 #[.pointer (some ⟨b1, 0, none⟩), .pointer (some ⟨b2, 0, none⟩)] ((movesOf 1 p s r).map fun m => #[moveV m]) no (Plan b1 b2 1 p s r) (fun _ => True) := by
  have hr0 : 0 < (r : Int) := by omega
  rintro y J Z W hJ hZ hH hY - h0
  refine callsIn_of_wp Try.func38 rfl trivial ?_ rfl
  simp only [Try.ntmps38, List.size_toArray, List.length_cons, List.length_nil, Nat.reduceAdd, Nat.reduceSub, Array.replicate_succ, Array.replicate_zero, List.push_toArray, List.append_toArray, List.nil_append, List.cons_append]
  have hP0 := hH 0 W h0
  obtain ⟨c0, c1, c2, c3⟩ := hP0.cells
  have hY' := Lib.hid hY
  have hJ' := Lib.hid hJ
  have hH' := Lib.hid hH
  have hZ' := Lib.hid hZ
  have hmx : Try.prog.follows .mixedOrders = true := by kernel_rfl
  clear hY hJ hH hZ hP0
  refine scope_in ?_
  gi_wp2_with (refine wpIn_label ?_)
  gi_loopw [11] (fun i wr => ∃ k : Nat, k ≤ p ∧ i = .int .i64 k ∧ J (pre 1 p s r k).length wr) (fun i wr => p - (intOf i).toNat)
  case atStart => exact ⟨0, by omega, rfl, by simpa [pre] using h0⟩
  case round =>
    clear c0 c1 c2 c3
    obtain ⟨k, hk, rfl, hJk⟩ := hrel
    have hP := hH'.out _ _ hJk
    obtain ⟨c0, c1, c2, c3⟩ := hP.cells
    have hJk' := Lib.hid hJk
    clear hP hJk
    by_cases hkp : k < p
    · have hrb : ((r : Int) == 0) = false := by simp; omega
      by_cases hnear : k < qOf p
      · have hX := Lib.hid (show 2 ^ (r - 1) < 2 ^ Nat.log2 p from Nat.pow_lt_pow_right (by omega) (by omega))
        have hf0 := Lib.hid (show k ^^^ 2 ^ (r - 1) < qOf p from Nat.xor_lt_two_pow hnear hX.out)
        have hqp := qOf_le h1
        obtain ⟨f, hf⟩ : ∃ f, k ^^^ 2 ^ (r - 1) = f := ⟨_, rfl⟩
        have hw : Hid (ways 1 p r k = some (f, 1)) := Lib.hid (by rw [ways, if_neg (by omega), if_neg (by omega), if_pos ⟨by omega, hnear⟩, hf])
        have hfp : f < p := by have := hf0.out; rw [hf] at this; omega
        have hfk : f ≠ k := by rw [← hf]; exact xor_ne k _ (Nat.two_pow_pos _)
        obtain ⟨X, hX2⟩ : ∃ X, 2 ^ (r - 1) = X := ⟨_, rfl⟩
        have hXb : X < 128 := by have := hX.out; have h6 : Nat.log2 p ≤ 6 := log_le h1 h2; have : 2 ^ Nat.log2 p ≤ 2 ^ 6 := Nat.pow_le_pow_right (by omega) h6; omega
        have eX : wrap64 ((2 : Int) ^ (r - 1)) = (X : Int) := by
          rw [show (2 : Int) ^ (r - 1) = ((2 ^ (r - 1) : Nat) : Int) by simp, hX2]; unfold wrap64; omega
        have eF : bits .xor .i64 (k : Int) (X : Int) = (f : Int) := xor_eq k X f (Nat.lt_of_lt_of_le hkp h2) hXb (by rw [← hX2, hf])
        have hnear2 : (k : Int) < ((qOf p : Nat) : Int) := by omega
        have hq := Lib.hid (fun w => q_c 1 s p w h1 h2)
        have hrl : r ≤ 6 := by have := log_le h1 h2; omega
        clear hf hnear hX hX2 hf0 hrp
        generalize qOf p = q at *
        gi_wp2_with (first | refine wpIn_label ?_ | refine scope_in ?_)
        gi_region_with_o (fail)
        have c0' : wr.drew.cell? ⟨b1, 0, none⟩ = some (.int .i64 1) := c0
        have c1' : wr.drew.cell? ⟨b1, 1, none⟩ = some (.int .i64 p) := c1
        have c2' : wr.drew.cell? ⟨b1, 2, none⟩ = some (.int .i64 s) := c2
        have c3' : wr.drew.cell? ⟨b2, 0, none⟩ = some (.int .i64 r) := c3
        gi_wp2_with (first | refine wpIn_label ?_ | refine scope_in ?_)
        refine ⟨trivial, ?_⟩
        gi_wp2_with (first | refine wpIn_label ?_ | refine scope_in ?_)
        refine ⟨trivial, rfl, calls_in ((hq.out _).mono ?_)⟩
        rintro e w1 ⟨rfl, hk1⟩
        have hJ1 := Lib.hid (hJ'.out _ _ _ (hJ'.out _ _ _ hJk'.out (Kp.refl no _).drew) hk1)
        have hP1 := hH'.out _ _ hJ1.out
        clear c0' c1' c2' c3' c0 c1 c2 c3
        obtain ⟨c0, c1, c2, c3⟩ := hP1.cells
        clear hP1 hk1
        gi_wp2_with (first | refine wpIn_label ?_ | refine scope_in ?_)
        clear eX eF
        obtain ⟨wo, hwo⟩ : ∃ wo : World, wo = w1 := ⟨_, rfl⟩
        have hwo' := Lib.hid hwo
        clear hwo
        gi_loopw [7] (fun i V => ∃ j : Nat, j ≤ 1 ∧ i = .int .i64 ((f : Int) + (j : Int)) ∧ J (pre 1 p s r k ++ inner 1 p s r k f j).length V) (fun i _ => (1 + f) - (intOf i).toNat)
        case atStart => exact ⟨0, by omega, by simp, by simpa [inner] using hJ1.out⟩
        case round =>
          clear c0 c1 c2 c3
          obtain ⟨j, hj, rfl, hJj⟩ := hrel
          have hP := hH'.out _ _ hJj
          obtain ⟨c0, c1, c2, c3⟩ := hP.cells
          have hJj' := Lib.hid hJj
          clear hJj
          by_cases hjm : j < 1
          · by_cases hself : f + j = k
            · exfalso; omega
            · have hsb : (((f : Int) + (j : Int)) == (k : Int)) = false := by simp; omega
              have HM := Lib.hid (moves_at 1 p s r k f 1 j hkp hw.out hjm (by omega))
              have hin := Lib.hid (inner_succ 1 p s r k f j)
              have hto : f + j < p := by omega
              have hheld := Lib.hid (fun w => held_c 1 p s (f + j) (r + 1) w (by omega) h1 h2 h3 (by omega) (by omega))
              have hsp : Hid (mvSpan 1 p s r (f + j) = heldOf 1 p s (f + j) (r + 1)) := Lib.hid (by rw [mvSpan, if_neg (by omega)])
              have hself' := Lib.hid hself
              clear hself
              generalize hhe : heldOf 1 p s (f + j) (r + 1) = x at hheld hsp
              obtain ⟨ha, hb⟩ := x
              clear hhe
              have hP' := Lib.hid hP
              clear hP
              gi_wp2_with fail
              refine ⟨trivial, rfl, calls_in ((hheld.out _).mono ?_)⟩
              rintro e w1 ⟨rfl, hk1⟩
              unfold span
              have hJ3 := hJ'.out _ _ _ hJj'.out (hk1.alloc (.cells #[.int .i64 ha, .int .i64 hb] 29))
              have hP1 := hP'.out.no hk1
              clear c0 c1 c2 c3
              obtain ⟨c0, c1, c2, c3⟩ := hP1.cells
              have g1 := blk_lt hP1.1
              have g2 := blk_lt hP1.2
              obtain ⟨hl, hx⟩ := HM.out
              obtain ⟨fn, tmps, assign, body, hy, hR⟩ := hY'.out _ (by simpa using hl) _ hJ3
              rw [List.getElem_map, hx, show moveV (mkMv 1 p s r k (f + j)) = .agg #[.int .i64 r, .int .i64 k, .int .i64 ((f : Int) + (j : Int)), .int .i64 ha, .int .i64 hb] by unfold mkMv; rw [hsp.out]; simp [moveV]] at hy
              clear hl hx
              have hR' := Lib.hid hR
              have hP1' := Lib.hid hP1
              clear hR hP1 hk1
              gi_wp2_with fail
              refine ⟨rfl, hR'.out.mono ?_⟩
              rintro e w3 (⟨rfl, hJ4, -⟩ | ⟨rfl, hZ4⟩)
              · have hP4 := hH'.out _ _ hJ4
                clear c0 c1 c2 c3
                obtain ⟨c0, c1, c2, c3⟩ := hP4.cells
                have hJ4' := Lib.hid hJ4
                clear hJ4 hP4
                gi_wp2_with fail
                go_roundw
                case rel =>
                  refine ⟨j + 1, by omega, by go_num, ?_⟩
                  rw [hin.out, if_neg (by have := hself'.out; omega), ← List.append_assoc, List.length_append]
                  exact hJ4'.out
                case measure => (simp [intOf]; try omega)
              · have hZ4' := Lib.hid hZ4
                clear hZ4
                gi_wp2_with fail
                repeat (first | rw [Exit.noGoto_ret] | gi_step)
                refine bodyPost_ret (results_none rfl _ _ _) rfl ?_
                exact ⟨⟨_, rfl⟩, .inr hZ4'.out⟩
          · obtain rfl : j = 1 := by omega
            clear hP
            gi_wp2
            simp only [Exit.noGoto_normal]
            gi_wp2
            go_roundw
            case rel =>
              refine ⟨k + 1, by omega, by go_num, ?_⟩
              rw [pre_succ, mvFrom, hw.out]
              exact hJj'.out
            case measure => (simp [intOf]; try omega)
      · have hw : Hid (ways 1 p r k = none) := Lib.hid (by rw [ways, if_neg (by omega), if_neg (by omega), if_neg (by omega)])
        have hnear2 : ¬ (k : Int) < ((qOf p : Nat) : Int) := by omega
        have hq := Lib.hid (fun w => q_c 1 s p w h1 h2)
        clear hnear
        generalize qOf p = q at *
        gi_wp2_with (first | refine wpIn_label ?_ | refine scope_in ?_)
        gi_region_with_o (fail)
        have c0' : wr.drew.cell? ⟨b1, 0, none⟩ = some (.int .i64 1) := c0
        have c1' : wr.drew.cell? ⟨b1, 1, none⟩ = some (.int .i64 p) := c1
        have c2' : wr.drew.cell? ⟨b1, 2, none⟩ = some (.int .i64 s) := c2
        have c3' : wr.drew.cell? ⟨b2, 0, none⟩ = some (.int .i64 r) := c3
        gi_wp2_with (first | refine wpIn_label ?_ | refine scope_in ?_)
        refine ⟨trivial, ?_⟩
        gi_wp2_with (first | refine wpIn_label ?_ | refine scope_in ?_)
        refine ⟨trivial, rfl, calls_in ((hq.out _).mono ?_)⟩
        rintro e w1 ⟨rfl, hk1⟩
        have hJ1 := Lib.hid (hJ'.out _ _ _ (hJ'.out _ _ _ hJk'.out (Kp.refl no _).drew) hk1)
        have hP1 := hH'.out _ _ hJ1.out
        clear c0' c1' c2' c3' c0 c1 c2 c3
        obtain ⟨c0, c1, c2, c3⟩ := hP1.cells
        clear hP1 hk1
        gi_wp2_with (first | refine wpIn_label ?_ | refine scope_in ?_)
        repeat (first | rw [Exit.noGoto_exit] | rw [Exit.noGoto_normal] | gi_step)
        gi_wp2
        go_roundw
        case rel =>
          refine ⟨k + 1, by omega, by go_num, ?_⟩
          rw [pre_succ, mvFrom, hw.out, List.append_nil]
          exact hJ1.out
        case measure => (simp [intOf]; try omega)
    · obtain rfl : k = p := by omega
      gi_wp2
      repeat (first | rw [Exit.noGoto_ret] | rw [Exit.noGoto_normal] | gi_step)
      go_end0
      exact ⟨⟨_, rfl⟩, .inl (by simpa [movesOf] using hJk'.out)⟩
end Go.Proofs.Ytamhlmfcnnomgaa

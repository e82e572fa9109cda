/- The walk of the law WindowMet. -/
import Derived.Test.YtkoajbmomipjkaaDoorLastL
import Derived.Test.YtkoajbmomipjkaaDoorWf
import Derived.IntWalk
import Derived.Deep.CutBlock
import Derived.Deep.CutRange
import Derived.Test.YtkoajbmomipjkaaDoorOrder
namespace Go.Proofs.YtkoajbmomipjkaaDoor
open Go.RowKit
set_option linter.unusedVariables false

/-- Which of the 600 numbers from the base on are met. -/
def arrM (base N : Nat) (x : BitVec 64) : List Value := (List.range 600).map fun n => .bool (metM N x (base + n))

theorem arrM_get {base N : Nat} {x : BitVec 64} {n : Nat} (h : n < 600) : (arrM base N x)[n]? = some (.bool (metM N x (base + n))) := by
  unfold arrM
  rw [List.getElem?_map, List.getElem?_range h]; rfl

theorem room_small {N n : Nat} (h : n < 5000000000) : roomM N n = decide (n < N + 64) := by
  unfold roomM
  rw [decide_eq_true (by omega : (n : Int) < 4611686018427387904), Bool.true_and]
  exact decide_eq_decide.2 (by omega)

theorem room_yes {N n : Nat} (h : n < 5000000000) (h2 : n < N + 64) : roomM N n = true := by
  unfold roomM
  rw [decide_eq_true (by omega : (n : Int) < 4611686018427387904), decide_eq_true (by omega : (n : Int) < (N : Int) + 64)]
  rfl
theorem room_no {N n : Nat} (h2 : ¬ n < N + 64) : roomM N n = false := by
  unfold roomM
  rw [decide_eq_false (by omega : ¬ (n : Int) < (N : Int) + 64), Bool.and_false]

theorem arrM_zero (base : Nat) : List.replicate 600 (Value.bool false) = arrM base base 0#64 := by
  unfold arrM
  symm
  rw [List.eq_replicate_iff]
  refine ⟨by simp, fun b hb => ?_⟩
  obtain ⟨n, -, rfl⟩ := List.mem_map.1 hb
  have : metM base 0#64 (base + n) = false := by unfold metM; simp
  rw [this]

theorem arrM_length (base N : Nat) (x : BitVec 64) : (arrM base N x).length = 600 := by simp [arrM]

theorem arrM_set {base N n : Nat} {x : BitVec 64} (hx : ~~~x ≠ 0#64) (hn : base + n < N + 65) : (arrM base N x).set n (.bool true) = arrM base (withM N x (base + n)).1 (withM N x (base + n)).2 := by
  apply List.ext_getElem (by simp [arrM])
  intro i h1 h2
  rw [List.getElem_set]
  simp only [arrM, List.getElem_map, List.getElem_range]
  rw [with_met hx hn]
  by_cases e : n = i
  · subst e; simp
  · rw [if_neg e, decide_eq_false (by omega : ¬ base + i = base + n), Bool.or_false]

theorem zero_arr (w : World) : Sem.run Tryd.prog (zeroValue 36) w = .ok (.agg (List.replicate 600 (.bool false)).toArray) w := by kernel_rfl

/-- The greatest of the first n that was met, or -1. -/
def LastP (base N : Nat) (x : BitVec 64) (n : Nat) (lv : Int) : Prop :=
  (lv = -1 ∧ ∀ j, j < n → metM N x (base + j) = false) ∨ (∃ j : Nat, j < n ∧ lv = (j : Int) ∧ metM N x (base + j) = true ∧ ∀ i, j < i → i < n → metM N x (base + i) = false)

theorem LastP.next {base N n : Nat} {x : BitVec 64} {lv : Int} (h : LastP base N x n lv) : LastP base N x (n + 1) (if metM N x (base + n) = true then (n : Int) else lv) := by
  by_cases hm : metM N x (base + n) = true
  · rw [if_pos hm]
    exact .inr ⟨n, by omega, rfl, hm, fun i h1 h2 => by omega⟩
  · rw [if_neg hm]
    have hm : metM N x (base + n) = false := by simpa using hm
    rcases h with ⟨h1, h2⟩ | ⟨j, h1, h2, h3, h4⟩
    · refine .inl ⟨h1, fun j hj => ?_⟩
      rcases Nat.lt_or_ge j n with h | h
      · exact h2 j h
      · obtain rfl : j = n := by omega
        exact hm
    · refine .inr ⟨j, by omega, h2, h3, fun i hi1 hi2 => ?_⟩
      rcases Nat.lt_or_ge i n with h | h
      · exact h4 i hi1 h
      · obtain rfl : i = n := by omega
        exact hm

theorem LastP.range {base N n : Nat} {x : BitVec 64} {lv : Int} (h : LastP base N x n lv) : -1 ≤ lv ∧ lv < n := by
  rcases h with ⟨h1, h2⟩ | ⟨j, h1, h2, h3, h4⟩ <;> omega

theorem LastP.top {base M N : Nat} {x : BitVec 64} {lv : Int} (h : LastP base N x 600 lv) (hN : N = base + M) (hg : Good (base + 400) N x) : (topM N x : Int) = base + lv + 1 := by
  obtain ⟨-, a1, a2, a3, a4, a5⟩ := holes_spec N x
  have hlow : ∀ j, j < M → metM N x (base + j) = true := fun j hj => by
    unfold metM; rw [decide_eq_true (by omega : base + j < N)]; rfl
  have hM := hg.next
  rcases h with ⟨rfl, h2⟩ | ⟨j, h1, rfl, h3, h4⟩
  · have hM0 : M = 0 := by
      rcases Nat.eq_zero_or_pos M with h | h
      · exact h
      · have e1 := hlow 0 h
        rw [h2 0 (by omega)] at e1; cases e1
    rcases a4 with a4 | ⟨a4, a6⟩
    · omega
    · have hlt := hg.low _ a6
      have e2 := h2 (topM N x - 1 - base) (by omega)
      rw [show base + (topM N x - 1 - base) = topM N x - 1 by omega, a6] at e2
      cases e2
  · have hge : base + j < topM N x := by
      rcases Nat.lt_or_ge (base + j) (topM N x) with h | h
      · exact h
      · rw [a3 _ h] at h3; cases h3
    rcases Nat.lt_or_ge (base + j + 1) (topM N x) with h | h
    · exfalso
      have hm : metM N x (topM N x - 1) = true := by
        rcases a4 with a4 | ⟨a4, a6⟩
        · unfold metM; rw [decide_eq_true (by omega : topM N x - 1 < N)]; rfl
        · exact a6
      have hlt := hg.low _ hm
      have e2 := h4 (topM N x - 1 - base) (by omega) (by omega)
      rw [show base + (topM N x - 1 - base) = topM N x - 1 by omega, hm] at e2
      cases e2
    · omega

/-- The holes among the first n. -/
def hsM (base N : Nat) (x : BitVec 64) (n : Nat) : List Nat := (List.range' base n).filter fun k => !metM N x k
theorem hsM_met {base N n : Nat} {x : BitVec 64} (h : metM N x (base + n) = true) : hsM base N x (n + 1) = hsM base N x n := by
  unfold hsM
  rw [← List.range'_append_1, List.filter_append]
  simp [h]
theorem hsM_hole {base N n : Nat} {x : BitVec 64} (h : metM N x (base + n) = false) : hsM base N x (n + 1) = hsM base N x n ++ [base + n] := by
  unfold hsM
  rw [← List.range'_append_1, List.filter_append]
  simp [h]
theorem hsM_pre {base N n : Nat} {x : BitVec 64} : ∀ k, ∃ r, hsM base N x (n + k) = hsM base N x n ++ r
  | 0 => ⟨[], by simp⟩
  | k + 1 => by
    obtain ⟨r, hr⟩ := hsM_pre (n := n) k
    cases hm : metM N x (base + (n + k)) with
    | true => exact ⟨r, by rw [show n + (k + 1) = n + k + 1 by omega, hsM_met hm, hr]⟩
    | false => exact ⟨r ++ [base + (n + k)], by rw [show n + (k + 1) = n + k + 1 by omega, hsM_hole hm, hr, List.append_assoc]⟩
theorem hsM_at {base N n L : Nat} {x : BitVec 64} (h : metM N x (base + n) = false) (hn : n < L) : (hsM base N x L)[(hsM base N x n).length]? = some (base + n) := by
  obtain ⟨r, hr⟩ := hsM_pre (base := base) (N := N) (x := x) (n := n + 1) (L - (n + 1))
  rw [show n + 1 + (L - (n + 1)) = L by omega, hsM_hole h] at hr
  rw [hr]
  simp
theorem hsM_low {base M N : Nat} {x : BitVec 64} (hN : N = base + M) : ∀ n, n ≤ M → hsM base N x n = []
  | 0, _ => rfl
  | n + 1, h => by
    rw [hsM_met (by unfold metM; rw [decide_eq_true (by omega : base + n < N)]; rfl), hsM_low hN n (by omega)]

theorem holes_all {base M N : Nat} {x : BitVec 64} {lv : Int} (h : LastP base N x 600 lv) (hN : N = base + M) (hg : Good (base + 400) N x) : holesM N x = hsM base N x lv.toNat := by
  have ht := h.top hN hg
  obtain ⟨a0, a1, a2, a3, a4, a5⟩ := holes_spec N x
  have e : holesM N x = hsM base N x (lv + 1).toNat := by
    rw [a0]
    obtain ⟨d, hd⟩ : ∃ d, topM N x = N + d := ⟨topM N x - N, by omega⟩
    have e1 : (lv + 1).toNat = M + d := by omega
    rw [e1, hd, show N + d - N = d by omega]
    show _ = (List.range' base (M + d)).filter _
    rw [← List.range'_append_1, List.filter_append]
    have := hsM_low (x := x) hN M (Nat.le_refl _)
    unfold hsM at this
    rw [this, ← hN]; rfl
  rw [e]
  rcases h with ⟨rfl, h2⟩ | ⟨j, h1, rfl, h3, h4⟩
  · rfl
  · rw [show ((j : Int) + 1).toNat = j + 1 by omega, Int.toNat_natCast, hsM_met h3]

set_option maxRecDepth 100000 in
set_option maxHeartbeats 8000000 in
theorem met_walk (base : Nat) (hb : base < 4294967296) (a : Option Addr) (len cap : Nat) (zs : List Int) (w : World) (ht : Tab w) (hl : IsRow .u16 w a len cap zs) :
    Calls Tryd.prog 4 #[.int .u32 base, .slice a len cap] w fun e w' => e = .returned (.bool true) ∧ Kp no w w' := by
  have hrd := Lib.hid hl.rd
  have hz := Lib.hid hl.len
  have hal := Lib.hid (alive_c w w ht (SL.start w))
  have ht' := Lib.hid ht
  clear hl ht
  go_enter Tryd.func4, Tryd.ntmps4
  go_wp2_with fail
  refine hal.out.mono ?_
  rintro e w1 ⟨rfl, H⟩
  have hH := Lib.hid H
  clear hal H
  by_cases h1 : 200 < len
  · have hd : decide ((200 : Int) < (len : Int)) = true := by simp; omega
    go_wp2_with fail
    go_ret
    exact ⟨rfl, hH.out.kp (.here _ _)⟩
  · have hd : decide ((200 : Int) < (len : Int)) = false := by simp; omega
    have h200 : len ≤ 200 := by omega
    clear h1
    have hu : IntKind.u64.wrap (base : Int) = base := by rw [IntKind.wrap_u64]; omega
    have hmay : mayV (base : Int) 0 = true := by
      unfold mayV
      rw [decide_eq_true (by omega)]
      rfl
    have hg0 := (may_good base 0#64).1 hmay
    have hof := of_c (base : Int) 0 (by decide) (by decide) hH.out
    rw [hmay] at hof
    have hof' := Lib.hid hof
    clear hof hmay
    go_wp2_with fail
    refine hof'.out.mono ?_
    rintro e w2 (⟨h, -⟩ | ⟨-, p, rfl, H⟩)
    · cases h
    have hH := Lib.hid H
    clear H hof'
    go_wp2_with fail
    obtain ⟨z, hz0⟩ : ∃ z, List.replicate 600 (Value.bool false) = z := ⟨_, rfl⟩
    rw [zero_arr, hz0]
    have hH2 := Lib.hid (hH.out.alloc z 36)
    go_wp2_with fail
    generalize w2.alloc (.cells z.toArray 36) = w3 at *
    generalize w2.heap.size = q at *
    have hS : Hid (SL w3 [winB p true (base : Int) (U (0#64)), .blk q (arrM base base 0#64) 36, .old w no]) := Lib.hid (by
      rw [← arrM_zero base, hz0]
      exact hH2.out.re (.step (.there (.here _ _)) (.same _)))
    clear hH hH2 hz0 hu
    go_loopw [42, 10] (fun i t V => ∃ (k M N : Nat) (x : BitVec 64), k ≤ len ∧ i = .int .i64 k ∧ t = .int .i64 (M : Int) ∧ N = base + M ∧ Good (base + 400) N x ∧ SL V [winB p true (N : Int) (U x), .blk q (arrM base N x) 36, .old w no]) (fun i _ _ => len - (intOf i).toNat)
    case atStart =>
      refine ⟨0, 0, base, 0#64, by omega, rfl, rfl, rfl, ⟨hg0.top, fun k hk => ?_⟩, hS.out⟩
      unfold metM at hk
      simp at hk
      omega
    case round =>
      clear hS
      obtain ⟨k, M, N, x, hk, rfl, rfl, hN, hg, H⟩ := hrel
      by_cases hkl : k < len
      · obtain ⟨b, o, rfl, hcell0⟩ := (hrd.out.no (H.kp (.there (.there (.here _ _))))) k hkl
        have hcell : wr.cell? ⟨b, o + k, none⟩ = some (.int .u16 (zs.getD k 0)) := hcell0
        clear hcell0
        have hwf : 0 ≤ zs.getD k 0 ∧ zs.getD k 0 ≤ 65535 := by
          obtain ⟨y1, y2, y3, y4⟩ := hz.out
          rcases y3 with y3 | y3
          · omega
          · exact wf_u16 (y4 (zs.getD k 0) (by rw [List.getD_eq_getElem?_getD, List.getElem?_eq_getElem (by omega)]; exact List.getElem_mem _))
        obtain ⟨m, hm⟩ : ∃ m : Nat, zs.getD k 0 = m := ⟨(zs.getD k 0).toNat, by omega⟩
        rw [hm] at hcell hwf
        clear hm
        obtain ⟨n, hn⟩ : ∃ n, m % 400 = n := ⟨_, rfl⟩
        have hn400 : n < 400 := by omega
        have e2 : (m : Int) % 400 = (n : Int) := by omega
        clear hn
        have hM := hg.next
        have hM4 : M ≤ 400 := by omega
        obtain ⟨y, hy⟩ : ∃ y, base + n = y := ⟨_, rfl⟩
        have e4 : (base : Int) + n = (y : Int) := by omega
        have h5 : y < 5000000000 := by rw [← hy]; exact Nat.lt_trans (Nat.add_lt_add hb hn400) (by decide)
        have hy' := Lib.hid hy
        have hN' := Lib.hid hN
        by_cases hr : y < N + 64
        · have hrm : roomM (N : Int) (y : Int) = true := room_yes h5 hr
          have d1 : decide ((n : Int) < (M : Int) + 64) = true := by simp; omega
          have hyes := Lib.hid (meet_yes H (ht'.out.no (H.kp (.there (.there (.here _ _))))) hg.full (by omega) hrm)
          have hset := arrM_set (base := base) (N := N) (n := n) hg.full (by omega)
          have hgood := hg.with (n := y) hr (by omega)
          have hge := with_next (N := N) (n := y) (x := x)
          have hcl : n < 600 := by omega
          have hmt := with_met hg.full (by omega : y < N + 65)
          have hb0 : (arrM base N x)[n]? = some (.bool (metM N x y)) := by rw [arrM_get hcl, hy]
          rw [hy] at hset
          obtain ⟨⟨N', x'⟩, hz'⟩ : ∃ z, withM N x y = z := ⟨_, rfl⟩
          rw [hz'] at hyes hset hgood hge
          dsimp only at hyes hset hgood hge
          have hle := hgood.next
          have hrm2 : roomM (N' : Int) (y : Int) = true := room_yes h5 (by omega)
          have hN5 : (N' : Int) ≤ 4611686018427389000 := by omega
          obtain ⟨M', hM'⟩ : ∃ M', N' = base + M' := ⟨N' - base, by omega⟩
          have hMM : M ≤ M' := by omega
          have hM4' : M' ≤ 400 := by omega
          generalize metM N x y = bo at *
          have hset' := Lib.hid hset
          have hgood' := Lib.hid hgood
          have hM2 := Lib.hid hM'
          clear H hg hr hrm hy hN hM hset hgood hge hle hM' hz' hmt
          go_wp2_with fail
          refine hyes.out.mono ?_
          rintro e w4 ⟨rfl, H⟩
          have hro := room_c H (y : Int) (by omega) hN5
          rw [hrm2] at hro
          have hro' := Lib.hid hro
          have hcb := H.cell (b := q) (o := n) (v := .bool bo) (.there (.here _ _)) hb0
          have hfb := H.free (b := q) (.there (.here _ _)) n
          have H5 := ((H.re (L' := [.blk q (arrM base N x) 36, winB p true (N' : Int) (U x'), .old w no]) (.step (.there (.here _ _)) (.same _))).setCell n (.bool true))
          rw [hset'.out] at H5
          have hH5 := Lib.hid H5
          clear H H5 hyes hb0
          have hnb : ((!bo) == bo) = false := by cases bo <;> rfl
          clear hro hrm2
          go_wp2_with fail
          refine hro'.out.mono ?_
          rintro e w5 ⟨rfl, rfl⟩
          clear hro'
          go_wp2_with fail
          generalize w4.setCell ⟨q, n, none⟩ (.bool true) = w5 at *
          have hnx := Lib.hid (next_c (hH5.out.re (L' := [winB p true (N' : Int) (U x'), .blk q (arrM base N' x') 36, .old w no]) (.step (.there (.here _ _)) (.same _))))
          have hblk : ∀ j, j < 600 → w5.cell? ⟨q, j, none⟩ = some (.bool (metM N' x' (base + j))) := fun j hj => hH5.out.cell (.here _ _) (arrM_get hj)
          have hblk' := Lib.hid hblk
          have hlow : Hid (∀ j, j < M' → metM N' x' (base + j) = true) := Lib.hid (fun j hj => by
            have := hM2.out
            unfold metM; rw [decide_eq_true (by omega : base + j < N')]; rfl)
          have hat : Hid (metM N' x' (base + M') = false) := Lib.hid (by
            rw [← hM2.out]; unfold metM; rw [decide_eq_false (by omega : ¬ N' < N')]; rfl)
          clear hcb hfb hnb hblk
          go_loopw [10] (fun t V => ∃ j : Nat, M ≤ j ∧ j ≤ M' ∧ t = .int .i64 (j : Int) ∧ V = w5) (fun t _ => M' - (intOf t).toNat)
          case atStart => exact ⟨M, by omega, hMM, rfl, by trivial⟩
          case round =>
            obtain ⟨j, hj1, hj2, rfl, rfl⟩ := hrel
            have hc := hblk'.out j (by omega)
            by_cases hjl : j < M'
            · rw [hlow.out j hjl] at hc
              have hj6 : j < 600 := by omega
              go_wp2_with fail
              go_roundw
              case rel => exact ⟨j + 1, by omega, by omega, by go_num, by trivial⟩
              case measure => (simp [intOf]; try omega)
            · obtain rfl : j = M' := by omega
              rw [hat.out] at hc
              have hj6 : j < 600 := by omega
              have hM3 : (base : Int) + j = (N' : Int) := by have := hM2.out; omega
              clear hblk' hlow hat
              go_wp2_with fail
              refine hnx.out.mono ?_
              rintro e w' ⟨rfl, rfl⟩
              clear hnx
              go_wp2_with fail
              go_roundw
              case rel => exact ⟨k + 1, j, N', x', by omega, by go_num, rfl, hM2.out, hgood'.out, hH5.out.re (.step (.there (.here _ _)) (.same _))⟩
              case measure => (simp [intOf]; try omega)
        · have hrm : roomM (N : Int) (y : Int) = false := room_no hr
          have d1 : decide ((n : Int) < (M : Int) + 64) = false := by simp; omega
          have hno := Lib.hid (meet_no H hrm (by omega) (by omega))
          have hro := room_c H (y : Int) (by omega) (by omega)
          rw [hrm] at hro
          have hro' := Lib.hid hro
          have hH := Lib.hid H
          have hg' := Lib.hid hg
          clear H hg hr hrm hro hy hN hM
          go_wp2_with fail
          refine hno.out.mono ?_
          rintro e w' ⟨rfl, rfl⟩
          clear hno
          go_wp2_with fail
          refine hro'.out.mono ?_
          rintro e w' ⟨rfl, rfl⟩
          clear hro'
          go_wp2_with fail
          go_roundw
          case rel => exact ⟨k + 1, M, N, x, by omega, by go_num, rfl, hN'.out, hg'.out, hH.out⟩
          case measure => (simp [intOf]; try omega)
      · obtain rfl : k = len := by omega
        clear hkl
        have hM := hg.next
        have hM4 : M ≤ 400 := by omega
        have hH := Lib.hid H
        have hg' := Lib.hid hg
        have hN' := Lib.hid hN
        have hN5 : (N : Int) ≤ 4611686018427389000 := by omega
        clear H hg hM hN hg0
        go_wp2_with fail
        go_loopw [16, 15] (fun i t V => ∃ (n : Nat) (lv : Int), n ≤ 600 ∧ i = .int .i64 (n : Int) ∧ t = .int .i64 lv ∧ LastP base N x n lv ∧ SL V [winB p true (N : Int) (U x), .blk q (arrM base N x) 36, .old w no]) (fun i _ _ => 600 - (intOf i).toNat)
        case atStart => exact ⟨0, -1, by omega, rfl, rfl, .inl ⟨rfl, fun j hj => by omega⟩, hH.out⟩
        case round =>
          rename_i wv
          clear hH
          obtain ⟨n, lv, hn, rfl, rfl, hlp, H⟩ := hrel
          by_cases hnl : n < 600
          · have hlp' := Lib.hid hlp.next
            obtain ⟨l1, l2⟩ := hlp.range
            obtain ⟨y, hy⟩ : ∃ y, base + n = y := ⟨_, rfl⟩
            have e4 : (base : Int) + n = (y : Int) := by omega
            have hcb0 : (arrM base N x)[n]? = some (.bool (metM N x y)) := by rw [arrM_get hnl, hy]
            have hcl := Lib.hid (fun V (H : SL V [winB p true (N : Int) (U x), .blk q (arrM base N x) 36, .old w no]) => H.cell (b := q) (o := n) (v := .bool (metM N x y)) (.there (.here _ _)) hcb0)
            have hhas := Lib.hid (fun V (H : SL V [winB p true (N : Int) (U x), .blk q (arrM base N x) 36, .old w no]) => has_L H (by simp) ht'.out hN5 y)
            rw [hy] at hlp'
            have hH := Lib.hid H
            generalize metM N x y = bm at *
            have u1 : IntKind.u64.wrap (n : Int) = n := by rw [IntKind.wrap_u64]; omega
            have u2 : IntKind.u64.wrap ((base : Int) + n) = y := by rw [IntKind.wrap_u64]; omega
            have u3 : IntKind.u64.wrap (y : Int) = y := by rw [IntKind.wrap_u64]; omega
            clear H hlp hcb0 hy
            go_wp2_with fail
            refine wp_region_held_drew (S := (fun W => W.cell? ⟨q, n, none⟩ = some (.bool bm))) (by kernel_rfl) ?_ (fun hHeld => ?_)
            · exact hcl.out _ hH.out.drew
            have H := hH.out.drew
            generalize World.drew wr = w4 at *
            refine takeL (i := 0) rfl (by kernel_rfl) (by kernel_rfl) (by kernel_rfl) (fun _ _ _ _ h => h) hHeld ?_ (Or.inl ⟨by rfl, ?_⟩) ?_
            rotate_left
            · intro W hW
              (try dsimp only at hW)
              first | (go_simp; done) | (go_simp; with_reducible rfl)
            ((try simp only [Act.put]); (try simp only [List.setIfInBounds_toArray]); (try simp only [List.set_cons_succ]); (try simp only [List.set_cons_zero]))
            refine takeL (i := 1) rfl (by kernel_rfl) (by kernel_rfl) (by kernel_rfl) (fun _ _ _ _ h => h) hHeld ?_ (Or.inl ⟨by rfl, ?_⟩) ?_
            rotate_left
            · intro W hW
              (try dsimp only at hW)
              first | (go_simp; done) | (go_simp; with_reducible rfl)
            ((try simp only [Act.put]); (try simp only [List.setIfInBounds_toArray]); (try simp only [List.set_cons_succ]); (try simp only [List.set_cons_zero]))
            refine takeL (i := 2) rfl (by kernel_rfl) (by kernel_rfl) (by kernel_rfl) (fun _ _ _ _ h => h) hHeld ?_ (Or.inl ⟨by rfl, ?_⟩) ?_
            rotate_left
            · intro W hW
              (try dsimp only at hW)
              first | (go_simp; done) | (go_simp; with_reducible rfl)
            ((try simp only [Act.put]); (try simp only [List.setIfInBounds_toArray]); (try simp only [List.set_cons_succ]); (try simp only [List.set_cons_zero]))
            refine takeL (i := 3) rfl (by kernel_rfl) (by kernel_rfl) (by kernel_rfl) (fun _ _ _ _ h => h) hHeld ?_ (Or.inl ⟨by rfl, ?_⟩) ?_
            rotate_left
            · intro W hW
              (try dsimp only at hW)
              first | (go_simp; done) | (go_simp; with_reducible rfl)
            ((try simp only [Act.put]); (try simp only [List.setIfInBounds_toArray]); (try simp only [List.set_cons_succ]); (try simp only [List.set_cons_zero]))
            refine takeL (i := 4) rfl (by kernel_rfl) (by kernel_rfl) (by kernel_rfl) (fun _ _ _ _ h => h) hHeld ?_ (Or.inl ⟨by rfl, ?_⟩) ?_
            rotate_left
            · intro W hW
              (try dsimp only at hW)
              first | (go_simp; done) | (go_simp; with_reducible rfl)
            ((try simp only [Act.put]); (try simp only [List.setIfInBounds_toArray]); (try simp only [List.set_cons_succ]); (try simp only [List.set_cons_zero]))
            refine takeL (i := 6) rfl (by kernel_rfl) (by kernel_rfl) (by kernel_rfl) (fun _ _ _ _ h => h) hHeld ?_ (Or.inl ⟨by rfl, ?_⟩) ?_
            rotate_left
            · intro W hW
              (try dsimp only at hW)
              first | (go_simp; done) | (go_simp; with_reducible rfl)
            ((try simp only [Act.put]); (try simp only [List.setIfInBounds_toArray]); (try simp only [List.set_cons_succ]); (try simp only [List.set_cons_zero]))
            refine takeL (i := 7) rfl (by kernel_rfl) (by kernel_rfl) (by kernel_rfl) (fun _ _ _ _ h => h) hHeld ?_ (Or.inl ⟨by rfl, ?_⟩) ?_
            rotate_left
            · intro W hW
              (try dsimp only at hW)
              first | (go_simp; done) | (go_simp; with_reducible rfl)
            ((try simp only [Act.put]); (try simp only [List.setIfInBounds_toArray]); (try simp only [List.set_cons_succ]); (try simp only [List.set_cons_zero]))
            refine takeL (i := 8) rfl (by kernel_rfl) (by kernel_rfl) (by kernel_rfl) (fun _ _ _ _ h => h) hHeld ?_ (Or.inl ⟨by rfl, ?_⟩) ?_
            rotate_left
            · intro W hW
              (try dsimp only at hW)
              first | (go_simp; done) | (go_simp; with_reducible rfl)
            ((try simp only [Act.put]); (try simp only [List.setIfInBounds_toArray]); (try simp only [List.set_cons_succ]); (try simp only [List.set_cons_zero]))
            refine callL (i := 5) rfl (by kernel_rfl) (fun K hK => ?_)
            rw [if_pos (by rfl)]
            go_simp
            refine (hhas.out _ H).mono ?_
            rintro e w5 ⟨rfl, H5⟩
            clear hHeld
            replace H := H5
            clear H5
            refine hK.out _ _ ?_ (fun hHeld => ?_)
            · exact hcl.out _ H
            clear hK K
            ((try simp only [Act.put]); (try simp only [List.setIfInBounds_toArray]); (try simp only [List.set_cons_succ]); (try simp only [List.set_cons_zero]))
            refine takeL (i := 9) rfl (by kernel_rfl) (by kernel_rfl) (by kernel_rfl) (fun _ _ _ _ h => h) hHeld ?_ (Or.inl ⟨by rfl, ?_⟩) ?_
            rotate_left
            · intro W hW
              (try dsimp only at hW)
              first | (go_simp; done) | (go_simp; with_reducible rfl)
            ((try simp only [Act.put]); (try simp only [List.setIfInBounds_toArray]); (try simp only [List.set_cons_succ]); (try simp only [List.set_cons_zero]))
            refine wpAnyH_done (by kernel_rfl) ?_ _
            have hH5 := Lib.hid H
            clear H hHeld hH
            have hcb := hcl.out _ hH5.out
            clear hcl hhas u1 u2 u3
            cases bm
            · have hlp2 := Lib.hid (show LastP base N x (n + 1) lv from hlp'.out)
              go_wp2_with fail
              go_roundw
              case rel => exact ⟨n + 1, lv, by omega, by go_num, rfl, hlp2.out, hH5.out⟩
              case measure => (simp [intOf]; try omega)
            · have hlp2 := Lib.hid (show LastP base N x (n + 1) (n : Int) from hlp'.out)
              go_wp2_with fail
              go_roundw
              case rel => exact ⟨n + 1, (n : Int), by omega, by go_num, rfl, hlp2.out, hH5.out⟩
              case measure => (simp [intOf]; try omega)
          · obtain rfl : n = 600 := by omega
            clear hnl
            obtain ⟨l1, l2⟩ := hlp.range
            have hho := holes_L H (by simp) ht'.out hN5
            have hha := holes_all hlp hN'.out hg'.out
            have htop := hlp.top hN'.out hg'.out
            have hhu : Hid (∀ n, n < lv.toNat → metM N x (base + n) = false → (uv (holesM N x))[(hsM base N x n).length]? = some (.int .u64 ((base + n : Nat) : Int)) ∧ (hsM base N x n).length < (holesM N x).length) := Lib.hid (fun n h1 h2 => by
              have e1 := hsM_at h2 h1
              rw [← hha] at e1
              refine ⟨by unfold uv; rw [List.getElem?_map, e1]; rfl, (List.getElem?_eq_some_iff.1 e1).1⟩)
            have hhe : Hid ((hsM base N x lv.toNat).length = (holesM N x).length) := Lib.hid (by rw [hha])
            have hh5 : (holesM N x).length ≤ 600 := by
              rw [hha]; unfold hsM
              refine Nat.le_trans (List.length_filter_le _ _) ?_
              rw [List.length_range']; omega
            have htop' := Lib.hid htop
            have hho' := Lib.hid hho
            clear hho hha htop hlp H
            go_wp2_with fail
            refine hho'.out.mono ?_
            rintro e w5 ⟨ah, ch, rfl, H⟩
            generalize hhl : holesM N x = hl at *
            have hH := Lib.hid H
            clear hho' H
            go_wp2_with fail
            obtain ⟨L, hL⟩ : ∃ L, lv.toNat = L := ⟨_, rfl⟩
            rw [hL] at hhu hhe
            have hL6 : L ≤ 600 := by omega
            go_loopw [19, 18] (fun i t V => ∃ n : Nat, n ≤ L ∧ i = .int .i64 (n : Int) ∧ t = .int .i64 ((hsM base N x n).length : Int) ∧ V = w5) (fun i _ _ => L - (intOf i).toNat)
            case atStart => exact ⟨0, by omega, rfl, rfl, by trivial⟩
            case round =>
              obtain ⟨n, hnL, rfl, rfl, hV⟩ := hrel
              subst hV
              by_cases hlt : n < L
              · have hlv : lv = (L : Int) := by omega
                have d1 : decide ((n : Int) < lv) = true := by simp; omega
                clear hlv
                have hn6 : n < 600 := by omega
                obtain ⟨y, hy⟩ : ∃ y, base + n = y := ⟨_, rfl⟩
                have e4 : (base : Int) + n = (y : Int) := by omega
                have hcb := hH.out.cell (b := q) (o := n) (v := .bool (metM N x y)) (.there (.there (.here _ _))) (by rw [arrM_get hn6, hy])
                have hrd2 := (OwnK.rd (hH.out.ownOf (.here _ _))).2.1
                have h8 := hhu.out n hlt
                rw [hy] at h8
                have hs1 := Lib.hid (fun h => congrArg List.length (hsM_met (base := base) (N := N) (x := x) (n := n) h))
                have hs2 := Lib.hid (fun h => congrArg List.length (hsM_hole (base := base) (N := N) (x := x) (n := n) h))
                rw [hy] at hs1 hs2
                obtain ⟨kk, hkk⟩ : ∃ kk, (hsM base N x n).length = kk := ⟨_, rfl⟩
                rw [hkk] at h8 hs1
                simp only [List.length_append, List.length_cons, List.length_nil, hkk] at hs2
                rw [hkk]
                cases hbm : metM N x y with
                | true =>
                  rw [hbm] at hcb
                  have hs := Lib.hid (hs1.out hbm)
                  clear hs1 hs2 h8 hrd2 hhu hbm hy hkk
                  go_wp2_with fail
                  go_roundw
                  case rel => exact ⟨n + 1, by omega, by go_num, by rw [hs.out], by trivial⟩
                  case measure => (simp [intOf]; try omega)
                | false =>
                  rw [hbm] at hcb
                  have hs := Lib.hid (hs2.out hbm)
                  obtain ⟨q1, q2⟩ := h8 hbm
                  obtain ⟨bh, oh, rfl, hch⟩ := hrd2 kk (by omega)
                  replace hch : wr.cell? ⟨bh, oh + kk, none⟩ = some (.int .u64 (y : Int)) := by
                    refine hch.trans ?_
                    show some ((uv hl).getD kk undef) = _
                    rw [List.getD_eq_getElem?_getD, q1]; rfl
                  clear hs1 hs2 hhu hbm hy hkk q1 h8 hrd2
                  have u1 : IntKind.u64.wrap (n : Int) = n := by rw [IntKind.wrap_u64]; omega
                  go_wp2_with fail
                  go_roundw
                  case rel => exact ⟨n + 1, by omega, by go_num, by rw [hs.out]; go_num, by trivial⟩
                  case measure => (simp [intOf]; try omega)
              · obtain rfl : n = L := by omega
                have d1 : decide ((n : Int) < lv) = false := by simp; omega
                have hln := hhe.out
                rw [hln]
                have hg2 : Good 4611686018427387904 N x := ⟨hg'.out.top, fun k hk => Nat.lt_of_lt_of_le (hg'.out.low k hk) (by omega)⟩
                have hla := lastW_c (hH.out.re (L' := [winB p true (N : Int) (U x), .own 22 1 (.slice ah hl.length ch) hl.length (uv hl), .blk q (arrM base N x) 36, .old w no]) (.step (.there (.here _ _)) (.same _))) (U_nn x) (U_lt64 x)
                rw [lastA_top hg2] at hla
                have htp := htop'.out
                generalize topM N x = T at *
                clear hhe hhu hln hH hg2 hlt hnL hL
                by_cases hb0 : base = 0
                · have db0 : base ≤ 0 := by omega
                  have db2 : ((base : Int) == 0) = true := by simp; omega
                  by_cases hlv : lv = -1
                  · rw [if_pos (by omega)] at hla
                    have hla' := Lib.hid hla
                    have dl0 : lv < 0 := by omega
                    clear hla htp htop' l1 l2 hlv hb0
                    go_wp2_with fail
                    refine hla'.out.mono ?_
                    rintro e w6 ⟨rfl, H⟩
                    have hk := Lib.hid (H.kp (.there (.there (.there (.here _ _)))))
                    clear hla' H
                    go_wp2_with fail
                    go_ret
                    exact ⟨by simp; omega, hk.out⟩
                  · rw [if_neg (by omega)] at hla
                    obtain ⟨y, hy⟩ : ∃ y, T - 1 = y := ⟨_, rfl⟩
                    rw [hy] at hla
                    have hla' := Lib.hid hla
                    have dl0 : 0 ≤ lv := by omega
                    have u1 : IntKind.u64.wrap lv = lv := by rw [IntKind.wrap_u64]; omega
                    have u2 : (base : Int) + lv = (y : Int) := by omega
                    have u3 : IntKind.u64.wrap ((base : Int) + lv) = (y : Int) := by rw [IntKind.wrap_u64]; omega
                    clear hla htp htop' hlv hb0 hy
                    go_wp2_with fail
                    refine hla'.out.mono ?_
                    rintro e w6 ⟨rfl, H⟩
                    have hk := Lib.hid (H.kp (.there (.there (.there (.here _ _)))))
                    clear hla' H
                    go_wp2_with fail
                    go_ret
                    exact ⟨rfl, hk.out⟩
                · have db0 : 0 < base := by omega
                  have db2 : ((base : Int) == 0) = false := by simp; omega
                  obtain ⟨b1, hb1⟩ : ∃ b1, base - 1 = b1 := ⟨_, rfl⟩
                  have e1 : (base : Int) - 1 = (b1 : Int) := by omega
                  have hmb : metM N x b1 = true := by
                    have := hN'.out
                    unfold metM; rw [decide_eq_true (by omega : b1 < N)]; rfl
                  rw [if_neg (by omega)] at hla
                  obtain ⟨y, hy⟩ : ∃ y, T - 1 = y := ⟨_, rfl⟩
                  rw [hy] at hla
                  have hla' := Lib.hid hla
                  have hmb' := Lib.hid hmb
                  by_cases hlv : lv = -1
                  · obtain ⟨z2, hz2⟩ : ∃ z2, IntKind.u64.wrap lv = z2 := ⟨_, rfl⟩
                    have hz3 : z2 = 18446744073709551615 := by rw [← hz2, hlv]; decide
                    have u3 : IntKind.u64.wrap ((base : Int) + z2) = (y : Int) := by rw [IntKind.wrap_u64]; omega
                    have dl0 : lv < 0 := by omega
                    clear hla htp htop' l1 l2 hb0 hy hb1 hmb hz3 hlv
                    go_wp2_with fail
                    refine hla'.out.mono ?_
                    rintro e w6 ⟨rfl, H⟩
                    have hh := has_L H (by simp) ht'.out hN5 b1
                    rw [hmb'.out] at hh
                    have hh' := Lib.hid hh
                    clear hla' H hh
                    go_wp2_with fail
                    refine hh'.out.mono ?_
                    rintro e w7 ⟨rfl, H⟩
                    have hk := Lib.hid (H.kp (.there (.there (.there (.here _ _)))))
                    clear hh' H
                    go_wp2_with fail
                    go_ret
                    exact ⟨rfl, hk.out⟩
                  · have dl0 : 0 ≤ lv := by omega
                    have u1 : IntKind.u64.wrap lv = lv := by rw [IntKind.wrap_u64]; omega
                    have u2 : (base : Int) + lv = (y : Int) := by omega
                    have u3 : IntKind.u64.wrap ((base : Int) + lv) = (y : Int) := by rw [IntKind.wrap_u64]; omega
                    clear hla htp htop' hlv hb0 hy hb1 hmb
                    go_wp2_with fail
                    refine hla'.out.mono ?_
                    rintro e w6 ⟨rfl, H⟩
                    have hh := has_L H (by simp) ht'.out hN5 b1
                    rw [hmb'.out] at hh
                    have hh' := Lib.hid hh
                    clear hla' H hh
                    go_wp2_with fail
                    refine hh'.out.mono ?_
                    rintro e w7 ⟨rfl, H⟩
                    have hk := Lib.hid (H.kp (.there (.there (.there (.here _ _)))))
                    clear hh' H
                    go_wp2_with fail
                    go_ret
                    exact ⟨rfl, hk.out⟩
end Go.Proofs.YtkoajbmomipjkaaDoor

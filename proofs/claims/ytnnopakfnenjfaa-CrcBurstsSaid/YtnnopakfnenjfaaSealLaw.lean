/- The walk of the law CrcSeals: whatever bytes come in (where they are more than 5,000 it returns at once), it returns true and writes nothing that was there. -/
import Derived.Test.YtnnopakfnenjfaaRef
import Derived.Test.YtnnopakfnenjfaaOrder
namespace Go.Proofs.Ytnnopakfnenjfaa
open Go.RowKit
set_option linter.unusedVariables false

theorem sumB_length (s : BitVec 32) : (sumB s).length = 4 := rfl
theorem sealed_length (bs : List (BitVec 8)) : (sealed bs).length = bs.length + 4 := by simp [sealed, sumB_length]
theorem sealed_take (bs : List (BitVec 8)) : (sealed bs).take ((sealed bs).length - 4) = bs := by
  rw [sealed_length, Nat.add_sub_cancel, sealed, List.take_append_of_le_length (Nat.le_refl _), List.take_length]
theorem opened_sealed (bs : List (BitVec 8)) : opened (sealed bs) = bs := by
  unfold opened
  rw [sealed_take, if_pos ⟨by rw [sealed_length]; omega, rfl⟩]
theorem openE_sealed (bs : List (BitVec 8)) : openE (sealed bs) = 0 := by
  unfold openE
  rw [sealed_take, if_pos ⟨by rw [sealed_length]; omega, rfl⟩]

theorem opened_le (bs : List (BitVec 8)) : (opened bs).length ≤ bs.length := by
  unfold opened; split
  · rw [List.length_take]; omega
  · simp
theorem own_eq {g n c k : Nat} (h : (Value.slice (some ⟨g, 0, none⟩) n c).ownBlock = some k) : g = k := by cases h; rfl

set_option maxRecDepth 100000 in
set_option maxHeartbeats 1000000 in
theorem seals_c (a : Option Addr) (n cap : Nat) (bs : List (BitVec 8)) (w : World) (hl : bs.length = n) (hm : ¬ 5000 < bs.length) (hcap : n ≤ cap) (hcm : cap ≤ 9223372036854775807) (hn : a = none → cap = 0) (hc : RdB w a bs) :
    Calls Try.prog 3 #[.slice a n cap] w fun e w' => e = .returned (.bool true) ∧ Kp no w w' := by
  subst hl
  have hc' := Lib.hid hc
  clear hc
  have h5 : ¬ (5000 : Int) < (bs.length : Int) := by omega
  go_enter Try.func3, Try.ntmps3
  go_wp2_with fail
  refine (twin_c a _ cap bs w rfl (by omega) hn hc'.out).mono ?_
  rintro e w1 ⟨v1, rfl, ho1, hk1, -⟩
  have ho1' := Lib.hid ho1
  have hk1' := Lib.hid hk1
  have hz1 := hk1.size
  clear ho1 hk1
  have a1 : w.heap.size ≤ (w1.alloc (.cells #[.int .u8 7] 5)).heap.size := by simp; omega
  have a2 : (bv bs).length + [Value.int .u8 7].length ≤ maxLen := by rw [bv_length]; simp [maxLen]; omega
  have a3 : ((bv bs).length + [Value.int .u8 7].length) * 1 ≤ 140737488355328 := by rw [bv_length]; simp; omega
  have a1' := Lib.hid a1
  have a2' := Lib.hid a2
  have a3' := Lib.hid a3
  clear a1 a2 a3
  go_wp2_with (at_builtin; refine wpList_app rfl _ _ 22 rfl w.heap.size elemB _ rfl (ho1'.out.no ((Kp.refl _ w1).alloc _)) a1'.out [.int .u8 7] rfl rfl (rd_new _ _ _) (by simp [Value.oneCell']) a2'.out a3'.out (by simp) ?_; intro v2 w2 ho2 hk2 hz; obtain ⟨g2, c2, rfl, hg2, hg2', hc2, hcm2⟩ := ho2.cons (n := bs.length + 1) (by simp [bv_length]) (by omega); have ho2' := Lib.hid ho2; have hk2' := Lib.hid (Kp.then (S := no) (U := no) ((hk1'.out).alloc _) hk2 (fun _ _ h => h) (fun i hi h => absurd (ho1'.out.block h).1 (by omega))); clear ho2 hk2 hz)
  have r2 : RdB w2 (some ⟨g2, 0, none⟩) bs := by
    have h := (ho2'.out).rd.2
    refine (Rd.mono h (by omega)).congr fun i hi => ?_
    rw [List.getD_eq_getElem?_getD, List.getElem?_append_left (by rw [bv_length]; exact hi), ← List.getD_eq_getElem?_getD, bv_getD bs hi]
  have r2' := Lib.hid r2
  clear r2
  refine (seal_c _ _ c2 bs w2 rfl (by omega) (by simp) r2'.out).mono ?_
  rintro e w3 ⟨v3, rfl, ho3, hk3, -⟩
  obtain ⟨g3, c3, rfl, hg3, hg3', hc3, hcm3⟩ := ho3.cons (n := bs.length + 4) (by rw [bv_length, sealed_length]) (by omega)
  have ho3' := Lib.hid ho3
  have hk3' := Lib.hid hk3
  clear ho3 hk3
  go_wp2_with fail
  refine (open_c _ _ c2 bs w3 rfl (by omega) (by omega) hcm2 (Rd.no r2'.out hk3'.out)).mono ?_
  rintro e w4 ⟨v4, rfl, ho4, hk4⟩
  obtain ⟨a4, c4, rfl⟩ : ∃ a c, v4 = .slice a (opened bs).length c := by
    rcases ho4.form with ⟨rfl, h⟩ | ⟨g, c, rfl, -⟩
    · have : (opened bs).length = 0 := by rw [← bv_length, h]; rfl
      exact ⟨none, 0, by rw [this]⟩
    · rw [bv_length]; exact ⟨_, _, rfl⟩
  have ho4' := Lib.hid ho4
  have hk4' := Lib.hid hk4
  clear ho4 hk4
  go_wp2_with fail
  refine (refSeal_c a _ cap bs w4 rfl (by omega) hn (Rd.no hc'.out ((hk2'.out.trans hk3'.out).trans hk4'.out))).mono ?_
  rintro e w5 ⟨v5, rfl, ho5, hk5, -⟩
  obtain ⟨g5, c5, rfl, hg5, hg5', hc5, hcm5⟩ := ho5.cons (n := bs.length + 4) (by rw [bv_length, sealed_length]) (by omega)
  have ho5' := Lib.hid ho5
  have hk5' := Lib.hid hk5
  clear ho5 hk5
  go_wp2_with fail
  refine (refOpen_c a _ cap bs w5 rfl (by omega) hcap hcm (Rd.no hc'.out (((hk2'.out.trans hk3'.out).trans hk4'.out).trans hk5'.out))).mono ?_
  rintro e w6 ⟨v6, rfl, ho6, hk6⟩
  obtain ⟨a6, c6, rfl⟩ : ∃ a c, v6 = .slice a (opened bs).length c := by
    rcases ho6.form with ⟨rfl, h⟩ | ⟨g, c, rfl, -⟩
    · have : (opened bs).length = 0 := by rw [← bv_length, h]; rfl
      exact ⟨none, 0, by rw [this]⟩
    · rw [bv_length]; exact ⟨_, _, rfl⟩
  have ho6' := Lib.hid ho6
  have hk6' := Lib.hid hk6
  clear ho6 hk6
  have s3 := run_str (P := Try.prog) Try.underlying22 Try.underlying5 Try.underlying9 (sealed_length bs) (((ho3'.out.no hk4'.out).no hk5'.out).no hk6'.out).bytes.2 (n := bs.length + 4) (c := c3) (t := 22) (s := 9)
  have s5 := run_str (P := Try.prog) Try.underlying22 Try.underlying5 Try.underlying9 (sealed_length bs) (ho5'.out.no hk6'.out).bytes.2 (n := bs.length + 4) (c := c5) (t := 22) (s := 9)
  have s4 := run_str (P := Try.prog) Try.underlying22 Try.underlying5 Try.underlying9 rfl ((ho4'.out.no hk5'.out).no hk6'.out).bytes.2 (n := (opened bs).length) (c := c4) (t := 22) (s := 9)
  have s6 := run_str (P := Try.prog) Try.underlying22 Try.underlying5 Try.underlying9 rfl ho6'.out.bytes.2 (n := (opened bs).length) (c := c6) (t := 22) (s := 9)
  have e7 : bv bs ++ [Value.int .u8 7] = bv (bs ++ [7#8]) := by simp [bv]; decide
  have o2 := ho2'.out
  rw [e7] at o2
  have k26 := (((hk3'.out.trans hk4'.out).trans hk5'.out).trans hk6'.out)
  have s2 := run_str (P := Try.prog) Try.underlying22 Try.underlying5 Try.underlying9 (by simp) (o2.no k26).bytes.2 (n := bs.length + 1) (c := c2) (t := 22) (s := 9)
  have s1 := run_str (P := Try.prog) Try.underlying22 Try.underlying5 Try.underlying9 rfl (Rd.no hc'.out (hk2'.out.trans k26)) (n := bs.length) (c := cap) (t := 22) (s := 9)
  have hcat : strB bs ++ ⟨#[7]⟩ = strB (bs ++ [7#8]) := by rw [strB_append]; rfl
  have o2' := Lib.hid o2
  have k26' := Lib.hid k26
  have hsz : (strB bs).size ≤ 6000 := by simp [strB, ByteArray.size]; omega
  clear o2 k26 e7
  go_wp2_with fail
  have oo := open_c (some ⟨g5, 0, none⟩) (bs.length + 4) c5 (sealed bs) w6 (sealed_length bs) (by rw [sealed_length]; omega) hc5 hcm5 (ho5'.out.no hk6'.out).bytes.2
  rw [opened_sealed, openE_sealed] at oo
  clear s1 s2 s3 s4 s5 s6
  refine oo.mono ?_
  clear oo
  rintro e w7 ⟨v7, rfl, ho7, hk7⟩
  obtain ⟨a7, c7, rfl⟩ : ∃ a c, v7 = .slice a bs.length c := by
    rcases ho7.form with ⟨rfl, h⟩ | ⟨g, c, rfl, -⟩
    · have : bs.length = 0 := by rw [← bv_length, h]; rfl
      exact ⟨none, 0, by rw [this]⟩
    · rw [bv_length]; exact ⟨_, _, rfl⟩
  have s7 := run_str (P := Try.prog) Try.underlying22 Try.underlying5 Try.underlying9 rfl ho7.bytes.2 (n := bs.length) (c := c7) (t := 22) (s := 9)
  have s1 := run_str (P := Try.prog) Try.underlying22 Try.underlying5 Try.underlying9 rfl (Rd.no hc'.out ((hk2'.out.trans k26'.out).trans hk7)) (n := bs.length) (c := cap) (t := 22) (s := 9)
  have ho7' := Lib.hid ho7
  have hk7' := Lib.hid hk7
  clear ho7 hk7
  go_wp2_with fail
  clear s7 s1
  have hop : (opened bs).length ≤ bs.length := opened_le bs
  go_loopw [83] (fun i wr => ∃ k : Nat, k ≤ bs.length + 4 ∧ i = .int .i64 k ∧ Hid (∃ l : List (BitVec 8), l.length = bs.length + 4 ∧ Own wr w2.heap.size 5 (.slice (some ⟨g3, 0, none⟩) (bs.length + 4) c3) (bv l)) ∧ Hid (Kp (fun k => (Value.slice (some ⟨g3, 0, none⟩) (bs.length + 4) c3).ownBlock = some k) w7 wr)) (fun i _ => bs.length + 4 - (intOf i).toNat)
  case atStart => exact ⟨0, by omega, rfl, Lib.hid ⟨sealed bs, sealed_length bs, (((ho3'.out.no hk4'.out).no hk5'.out).no hk6'.out).no hk7'.out⟩, Lib.hid (Kp.refl _ _)⟩
  case' round =>
    obtain ⟨k, hk, rfl, hl, hkp⟩ := hrel
    by_cases hlt : k < bs.length + 4
    · obtain ⟨l, hll, hol⟩ := hl.out
      obtain ⟨x, hx⟩ : ∃ x, l.getD k 0 = x := ⟨_, rfl⟩
      have hcell : wr.cell? ⟨g3, k, none⟩ = some (.int .u8 (U x)) := by
        have := hol.cellAt (i := k) (by rw [bv_length]; omega)
        rw [bv_getD l (by omega), hx] at this
        exact this
      have hfr : wr.frozen? ⟨g3, k, none⟩ = false := hol.frozenAt k
      have hst := hol.storeB k (by omega) (x + 1)
      rw [← plus8] at hst
      have hst' := Lib.hid hst
      have hx' := Lib.hid hx
      have hll' := Lib.hid hll
      clear hol hx hl hll hst
      have p0 := U_nn x
      have p1 := U_lt8 x
      go_wp2_with fail
      go_roundw
      case rel =>
        exact ⟨k + 1, by omega, by go_num, Lib.hid ⟨l.set k (x + 1), by rw [List.length_set]; exact hll'.out, hst'.out⟩, Lib.hid (hkp.out.setCell (p := ⟨g3, k, none⟩) (.inl rfl) _)⟩
      case measure => simp [intOf]; omega
    obtain rfl : k = bs.length + 4 := by omega
    obtain ⟨w8, rfl⟩ : ∃ w8 : World, w8 = wr := ⟨_, rfl⟩
    have hl8 := hl
    have hk8' := hkp
    clear hl hkp hlt hk
    go_wp2_with fail
  go_loopw [97] (fun i wr => ∃ k : Nat, k ≤ (opened bs).length ∧ i = .int .i64 k ∧ Hid (∃ l : List (BitVec 8), l.length = (opened bs).length ∧ Own wr w3.heap.size 5 (.slice a4 ((opened bs).length) c4) (bv l)) ∧ Hid (Kp (fun k => (Value.slice a4 ((opened bs).length) c4).ownBlock = some k) w8 wr)) (fun i _ => (opened bs).length - (intOf i).toNat)
  case atStart => exact ⟨0, by omega, rfl, Lib.hid ⟨opened bs, rfl, (((ho4'.out.no hk5'.out).no hk6'.out).no hk7'.out).kept hk8'.out (fun k h1 h2 => by have h3 := own_eq h2; have := (ho4'.out.block h1).1; omega)⟩, Lib.hid (Kp.refl _ _)⟩
  case' round =>
    obtain ⟨k, hk, rfl, hl, hkp⟩ := hrel
    by_cases hlt : k < (opened bs).length
    · obtain ⟨l, hll, hol⟩ := hl.out
      obtain ⟨x, hx⟩ : ∃ x, l.getD k 0 = x := ⟨_, rfl⟩
      obtain ⟨gg, cc, hv, -⟩ := hol.cons (n := (opened bs).length) (by rw [bv_length, hll]) (by omega)
      cases hv
      have hcell : wr.cell? ⟨gg, k, none⟩ = some (.int .u8 (U x)) := by
        have := hol.cellAt (i := k) (by rw [bv_length]; omega)
        rw [bv_getD l (by omega), hx] at this
        exact this
      have hfr : wr.frozen? ⟨gg, k, none⟩ = false := hol.frozenAt k
      have hst := hol.storeB k (by omega) (x + 1)
      rw [← plus8] at hst
      have hst' := Lib.hid hst
      have hx' := Lib.hid hx
      have hll' := Lib.hid hll
      clear hol hx hl hll hst
      have p0 := U_nn x
      have p1 := U_lt8 x
      go_wp2_with fail
      go_roundw
      case rel =>
        exact ⟨k + 1, by omega, by go_num, Lib.hid ⟨l.set k (x + 1), by rw [List.length_set]; exact hll'.out, hst'.out⟩, Lib.hid (hkp.out.setCell (p := ⟨gg, k, none⟩) (.inl rfl) _)⟩
      case measure => simp [intOf]; omega
    obtain rfl : k = (opened bs).length := by omega
    obtain ⟨w9, rfl⟩ : ∃ w9 : World, w9 = wr := ⟨_, rfl⟩
    have hl9 := hl
    have hk9' := hkp
    clear hl hkp hlt hk
    go_wp2_with fail
  go_loopw [111] (fun i wr => ∃ k : Nat, k ≤ bs.length ∧ i = .int .i64 k ∧ Hid (∃ l : List (BitVec 8), l.length = bs.length ∧ Own wr w6.heap.size 5 (.slice a7 bs.length c7) (bv l)) ∧ Hid (Kp (fun k => (Value.slice a7 bs.length c7).ownBlock = some k) w9 wr)) (fun i _ => bs.length - (intOf i).toNat)
  case atStart => exact ⟨0, by omega, rfl, Lib.hid ⟨bs, rfl, ((ho7'.out).kept hk8'.out (fun k h1 h2 => by have h3 := own_eq h2; have := (ho7'.out.block h1).1; have := hk4'.out.size; have := hk5'.out.size; have := hk6'.out.size; omega)).kept hk9'.out (fun k h1 h2 => by have := (ho7'.out.block h1).1; have := (ho4'.out.block h2).2; have := hk5'.out.size; have := hk6'.out.size; omega)⟩, Lib.hid (Kp.refl _ _)⟩
  case' round =>
    obtain ⟨k, hk, rfl, hl, hkp⟩ := hrel
    by_cases hlt : k < bs.length
    · obtain ⟨l, hll, hol⟩ := hl.out
      obtain ⟨x, hx⟩ : ∃ x, l.getD k 0 = x := ⟨_, rfl⟩
      obtain ⟨gg, cc, hv, -⟩ := hol.cons (n := bs.length) (by rw [bv_length, hll]) (by omega)
      cases hv
      have hcell : wr.cell? ⟨gg, k, none⟩ = some (.int .u8 (U x)) := by
        have := hol.cellAt (i := k) (by rw [bv_length]; omega)
        rw [bv_getD l (by omega), hx] at this
        exact this
      have hfr : wr.frozen? ⟨gg, k, none⟩ = false := hol.frozenAt k
      have hst := hol.storeB k (by omega) (x + 1)
      rw [← plus8] at hst
      have hst' := Lib.hid hst
      have hx' := Lib.hid hx
      have hll' := Lib.hid hll
      clear hol hx hl hll hst
      have p0 := U_nn x
      have p1 := U_lt8 x
      go_wp2_with fail
      go_roundw
      case rel =>
        exact ⟨k + 1, by omega, by go_num, Lib.hid ⟨l.set k (x + 1), by rw [List.length_set]; exact hll'.out, hst'.out⟩, Lib.hid (hkp.out.setCell (p := ⟨gg, k, none⟩) (.inl rfl) _)⟩
      case measure => simp [intOf]; omega
    obtain rfl : k = bs.length := by omega
    obtain ⟨w10, rfl⟩ : ∃ w10 : World, w10 = wr := ⟨_, rfl⟩
    have hl10 := hl
    have hk10' := hkp
    clear hl hkp hlt hk
    go_wp2_with fail
    have o2w : Own w10 w.heap.size 5 (.slice (some ⟨g2, 0, none⟩) (bs.length + 1) c2) (bv (bs ++ [7#8])) :=
      ((((o2'.out.no k26'.out).no hk7'.out).kept hk8'.out (fun k h1 h2 => by have h3 := own_eq h2; have h4 := own_eq h1; omega)).kept hk9'.out (fun k h1 h2 => by
        have h4 := own_eq h1; have := (ho4'.out.block h2).1; have := hk3'.out.size; omega)).kept hk10'.out (fun k h1 h2 => by
        have h4 := own_eq h1; have := (ho7'.out.block h2).1; have := k26'.out.size; omega)
    have o5w : Own w10 w4.heap.size 5 (.slice (some ⟨g5, 0, none⟩) (bs.length + 4) c5) (bv (sealed bs)) :=
      ((((ho5'.out.no hk6'.out).no hk7'.out).kept hk8'.out (fun k h1 h2 => by have h3 := own_eq h2; have h4 := own_eq h1; have := hk4'.out.size; omega)).kept hk9'.out (fun k h1 h2 => by
        have h4 := own_eq h1; have := (ho4'.out.block h2).2; omega)).kept hk10'.out (fun k h1 h2 => by
        have h4 := own_eq h1; have := (ho7'.out.block h2).1; have := hk6'.out.size; omega)
    have kw : Kp no w w10 := by
      have s3 := hk3'.out.size
      have s4 := hk4'.out.size
      have s5 := hk5'.out.size
      have s6 := hk6'.out.size
      have s2 := hk2'.out.size
      refine (((hk2'.out.trans (k26'.out.trans hk7'.out)).then hk8'.out (fun _ _ h => h) (fun i hi h => ?_)).then hk9'.out (fun _ _ h => h) (fun i hi h => ?_)).then hk10'.out (fun _ _ h => h) (fun i hi h => ?_)
      · have h3 := own_eq h; omega
      · have := (ho4'.out.block h).1; omega
      · have := (ho7'.out.block h).1; omega
    have bw := Rd.no hc'.out kw
    have hT : ∀ W, Kp no w10 W → ((convert 22 9 (.slice (some ⟨g2, 0, none⟩) (bs.length + 1) c2)).run Try.prog W = .ok (.string (strB (bs ++ [7#8]))) W ∧
        (convert 22 9 (.slice a bs.length cap)).run Try.prog W = .ok (.string (strB bs)) W ∧
        (convert 22 9 (.slice (some ⟨g5, 0, none⟩) (bs.length + 4) c5)).run Try.prog W = .ok (.string (strB (sealed bs))) W ∧ Kp no w10 W) := fun W hW =>
      ⟨run_str Try.underlying22 Try.underlying5 Try.underlying9 (by simp) (o2w.no hW).bytes.2, run_str Try.underlying22 Try.underlying5 Try.underlying9 rfl (Rd.no bw hW),
        run_str Try.underlying22 Try.underlying5 Try.underlying9 (sealed_length bs) (o5w.no hW).bytes.2, hW⟩
    have hT' := Lib.hid hT
    have kw' := Lib.hid kw
    have bw' := Lib.hid bw
    clear o2w o5w kw bw hT
    have hno : ¬ (9223372036854775807 < (strB bs).size + 1) := by omega
    refine wp_region_held_drew (S := (fun W => ((convert 22 9 (.slice (some ⟨g2, 0, none⟩) (bs.length + 1) c2)).run Try.prog W = .ok (.string (strB (bs ++ [7#8]))) W ∧ (convert 22 9 (.slice a bs.length cap)).run Try.prog W = .ok (.string (strB bs)) W ∧ (convert 22 9 (.slice (some ⟨g5, 0, none⟩) (bs.length + 4) c5)).run Try.prog W = .ok (.string (strB (sealed bs))) W ∧ Kp no w10 W))) (by kernel_rfl) (hT'.out _ ((Kp.refl no w10).drew)) (fun hHeld => ?_)
    refine takeL (i := 0) rfl (by kernel_rfl) (by kernel_rfl) (by kernel_rfl) (fun _ _ _ _ h => h) hHeld ?_ (Or.inl ⟨by rfl, ?_⟩) ?_
    rotate_left
    · intro W hW
      (try dsimp only at hW)
      first | (go_simp; done) | (go_simp; with_reducible rfl)
    simp only [Act.put, List.setIfInBounds_toArray, List.set_cons_zero, List.set_cons_succ]
    refine takeL (i := 1) rfl (by kernel_rfl) (by kernel_rfl) (by kernel_rfl) (fun _ _ _ _ h => h) hHeld ?_ (Or.inl ⟨by rfl, ?_⟩) ?_
    rotate_left
    · intro W hW
      (try dsimp only at hW)
      first | (go_simp; done) | (go_simp; with_reducible rfl)
    simp only [Act.put, List.setIfInBounds_toArray, List.set_cons_zero, List.set_cons_succ]
    refine takeL (i := 2) rfl (by kernel_rfl) (by kernel_rfl) (by kernel_rfl) (fun _ _ _ _ h => h) hHeld ?_ (Or.inl ⟨by rfl, ?_⟩) ?_
    rotate_left
    · intro W hW
      (try dsimp only at hW)
      first | (go_simp; done) | (go_simp; with_reducible rfl)
    simp only [Act.put, List.setIfInBounds_toArray, List.set_cons_zero, List.set_cons_succ]
    refine takeL (i := 3) rfl (by kernel_rfl) (by kernel_rfl) (by kernel_rfl) (fun _ _ _ _ h => h) hHeld ?_ (Or.inl ⟨by rfl, ?_⟩) ?_
    rotate_left
    · intro W hW
      (try dsimp only at hW)
      first | (go_simp; done) | (go_simp; with_reducible rfl)
    simp only [Act.put, List.setIfInBounds_toArray, List.set_cons_zero, List.set_cons_succ]
    refine takeL (i := 4) rfl (by kernel_rfl) (by kernel_rfl) (by kernel_rfl) (fun _ _ _ _ h => h) hHeld ?_ (Or.inl ⟨by rfl, ?_⟩) ?_
    rotate_left
    · intro W hW
      (try dsimp only at hW)
      first | (go_simp; done) | (go_simp; with_reducible rfl)
    simp only [Act.put, List.setIfInBounds_toArray, List.set_cons_zero, List.set_cons_succ]
    refine takeL (i := 5) rfl (by kernel_rfl) (by kernel_rfl) (by kernel_rfl) (fun _ _ _ _ h => h) hHeld ?_ (Or.inl ⟨by rfl, ?_⟩) ?_
    rotate_left
    · intro W hW
      (try dsimp only at hW)
      first | (go_simp; done) | (go_simp; with_reducible rfl)
    simp only [Act.put, List.setIfInBounds_toArray, List.set_cons_zero, List.set_cons_succ]
    refine takeL (i := 6) rfl (by kernel_rfl) (by kernel_rfl) (by kernel_rfl) (fun _ _ _ _ h => h) hHeld ?_ (Or.inl ⟨by rfl, ?_⟩) ?_
    rotate_left
    · intro W hW
      (try dsimp only at hW)
      first | (go_simp; done) | (go_simp; with_reducible rfl)
    simp only [Act.put, List.setIfInBounds_toArray, List.set_cons_zero, List.set_cons_succ]
    refine takeL (i := 7) rfl (by kernel_rfl) (by kernel_rfl) (by kernel_rfl) (fun _ _ _ _ h => h) hHeld ?_ (Or.inl ⟨by rfl, ?_⟩) ?_
    rotate_left
    · intro W hW
      (try dsimp only at hW)
      first | (go_simp; done) | (go_simp; with_reducible rfl)
    simp only [Act.put, List.setIfInBounds_toArray, List.set_cons_zero, List.set_cons_succ]
    refine takeL (i := 8) rfl (by kernel_rfl) (by kernel_rfl) (by kernel_rfl) (fun _ _ _ _ h => h) hHeld ?_ (Or.inl ⟨by rfl, ?_⟩) ?_
    rotate_left
    · intro W hW
      (try dsimp only at hW)
      first | (go_simp; done) | (go_simp; with_reducible rfl)
    simp only [Act.put, List.setIfInBounds_toArray, List.set_cons_zero, List.set_cons_succ]
    refine takeL (i := 9) rfl (by kernel_rfl) (by kernel_rfl) (by kernel_rfl) (fun _ _ _ _ h => h) hHeld ?_ (Or.inl ⟨by rfl, ?_⟩) ?_
    rotate_left
    · intro W hW
      (try dsimp only at hW)
      first | (go_simp; done) | (go_simp; with_reducible rfl)
    simp only [Act.put, List.setIfInBounds_toArray, List.set_cons_zero, List.set_cons_succ]
    refine callL (i := 10) rfl (by kernel_rfl) (fun K hK => ?_)
    go_simp
    refine (refSeal_c a _ cap bs _ rfl (by omega) hn (Rd.no bw'.out ((Kp.refl no w10).drew))).mono ?_
    rintro e w11 ⟨v11, rfl, ho11, hk11, -⟩
    obtain ⟨g11, c11, rfl, hg11, hg11', hc11, hcm11⟩ := ho11.cons (n := bs.length + 4) (by rw [bv_length, sealed_length]) (by omega)
    refine hK.out _ _ (hT'.out _ (((Kp.refl no w10).drew).trans hk11)) (fun _ => ?_)
    clear hK hHeld
    try simp only [Act.put, List.setIfInBounds_toArray, List.set_cons_zero, List.set_cons_succ]
    have hS2 : ∀ W, Kp no w11 W → ((convert 22 9 (.slice (some ⟨g11, 0, none⟩) (bs.length + 4) c11)).run Try.prog W = .ok (.string (strB (sealed bs))) W ∧ Kp no w11 W) := fun W hW =>
      ⟨run_str Try.underlying22 Try.underlying5 Try.underlying9 (sealed_length bs) (ho11.no hW).bytes.2, hW⟩
    refine wpAnyH_sharper (T := (fun W => (convert 22 9 (.slice (some ⟨g11, 0, none⟩) (bs.length + 4) c11)).run Try.prog W = .ok (.string (strB (sealed bs))) W ∧ Kp no w11 W)) (fun W hW => hT'.out _ ((((Kp.refl no w10).drew).trans hk11).trans hW.2)) _ _ _ _ ?_
    have hHeld := hS2 w11 (Kp.refl _ _)
    have kend := Lib.hid ((kw'.out.trans ((Kp.refl no w10).drew)).trans hk11)
    clear hS2 ho11 hk11
    refine takeL (i := 11) rfl (by kernel_rfl) (by kernel_rfl) (by kernel_rfl) (fun _ _ _ _ h => h) hHeld ?_ (Or.inl ⟨by rfl, ?_⟩) ?_
    rotate_left
    · intro W hW
      (try dsimp only at hW)
      first | (go_simp; done) | (go_simp; with_reducible rfl)
    simp only [Act.put, List.setIfInBounds_toArray, List.set_cons_zero, List.set_cons_succ]
    refine takeL (i := 12) rfl (by kernel_rfl) (by kernel_rfl) (by kernel_rfl) (fun _ _ _ _ h => h) hHeld ?_ (Or.inl ⟨by rfl, ?_⟩) ?_
    rotate_left
    · intro W hW
      (try dsimp only at hW)
      first | (go_simp; done) | (go_simp; with_reducible rfl)
    simp only [Act.put, List.setIfInBounds_toArray, List.set_cons_zero, List.set_cons_succ]
    refine takeL (i := 13) rfl (by kernel_rfl) (by kernel_rfl) (by kernel_rfl) (fun _ _ _ _ h => h) hHeld ?_ (Or.inl ⟨by rfl, ?_⟩) ?_
    rotate_left
    · intro W hW
      (try dsimp only at hW)
      first | (go_simp; done) | (go_simp; with_reducible rfl)
    simp only [Act.put, List.setIfInBounds_toArray, List.set_cons_zero, List.set_cons_succ]
    refine takeL (i := 14) rfl (by kernel_rfl) (by kernel_rfl) (by kernel_rfl) (fun _ _ _ _ h => h) hHeld ?_ (Or.inl ⟨by rfl, ?_⟩) ?_
    rotate_left
    · intro W hW
      (try dsimp only at hW)
      first | (go_simp; done) | (go_simp; with_reducible rfl)
    simp only [Act.put, List.setIfInBounds_toArray, List.set_cons_zero, List.set_cons_succ]
    refine wpAnyH_done (by kernel_rfl) ?_ _
    go_wp2_with fail
    go_ret
    exact ⟨rfl, kend.out⟩

set_option maxRecDepth 100000 in
theorem seals_w (a : Option Addr) (len cap : Nat) (z : List Int) (w : World) (h : IsRow .u8 w a len cap z) :
    Calls Try.prog 3 #[.slice a len cap] w fun e w' => e = .returned (.bool true) ∧ Below w.heap.size w w' := by
  obtain ⟨c, hc⟩ := h.bytes
  obtain ⟨h1, h2, h3, _⟩ := h.len
  by_cases h5 : 5000 < (len : Int)
  · go_enter Try.func3, Try.ntmps3
    go_wp2
    go_ret
    exact ⟨rfl, Below.refl _ _⟩
  · refine (seals_c a len cap ((List.range len).map c) w (by simp) (by simp; omega) h1 (by simpa [maxLen] using h2) ?_ (rdB_of hc)).mono fun e w' hh => ⟨hh.1, hh.2.self_below⟩
    rintro rfl
    rcases h with ⟨_, _, rfl, _⟩ | ⟨x, hx, _⟩
    · rfl
    · cases hx

end Go.Proofs.Ytnnopakfnenjfaa

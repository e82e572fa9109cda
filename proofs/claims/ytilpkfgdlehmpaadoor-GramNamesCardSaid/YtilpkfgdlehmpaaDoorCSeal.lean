/- The walks of mullionref04.Twin and slices.Clone, of crc.Seal and Open, and of the document's. -/
import Derived.Test.YtilpkfgdlehmpaaDoorCSum
import Derived.Test.YtilpkfgdlehmpaaDoorCSlices
import Derived.Deep.QuietTactic
import Derived.BigQuiet
namespace Go.Proofs.YtilpkfgdlehmpaaDoor.Crc
open Go.RowKit
set_option linter.unusedVariables false

theorem elemB : Elem Tryd.prog 23 5 (.int .u8 0) 1 := ⟨Tryd.underlying23, by kernel_rfl, rfl⟩

theorem twin_c (a : Option Addr) (n cap : Nat) (bs : List (BitVec 8)) (w : World) (hl : bs.length = n) (hm : bs.length ≤ 140737488355328) (hn : a = none → cap = 0) (hc : RdB w a bs) :
    Calls Tryd.prog 59 #[.slice a n cap] w (GivesB w 5 bs fun v => v = .slice none 0 0 ↔ bs = []) := by
  subst hl
  have hc' := Lib.hid hc
  clear hc
  go_enter Tryd.func59, Tryd.ntmps59
  go_wp2_with (at_builtin; refine wpList_app rfl _ _ 23 rfl w.heap.size elemB (.slice none 0 0) rfl (Own.nil w w.heap.size 5) (Nat.le_refl _) (bv bs) rfl (bv_length bs) hc'.out.rd (bv_one bs) (by rw [bv_length]; simp [maxLen]; omega) (by rw [bv_length]; simp; omega) hn ?_; intro v w1 ho hk hz; have ho' := Lib.hid ho; have hk' := Lib.hid hk; have hz' := Lib.hid hz; clear ho hk hz)
  go_ret
  refine ⟨v, rfl, by simpa using ho'.out, ?_, ?_⟩
  · exact hk'.out.mono (fun k _ h => by simp [Value.ownBlock] at h)
  · show v = _ ↔ _
    rw [hz'.out]; simp [bv]

theorem clone_c (a : Option Addr) (n cap : Nat) (bs : List (BitVec 8)) (w : World) (hl : bs.length = n) (hm : bs.length ≤ 140737488355328) (hn : a = none → cap = 0) (hc : RdB w a bs) :
    Calls Tryd.prog 54 #[.slice a n cap] w (GivesB w 5 bs fun v => v = .slice none 0 0 ↔ a = none) := by
  subst hl
  have hc' := Lib.hid hc
  clear hc
  cases a with
  | none =>
    obtain rfl := hn rfl
    have hb : bs = [] := by
      cases bs with
      | nil => rfl
      | cons y r => obtain ⟨b, o, ha, _⟩ := hc'.out 0 (by simp); cases ha
    subst hb
    have hnl := fun (w : World) => Lib.run_eql_slice_nil (P := Tryd.prog) w 23 5 none 0 0 0 0 Tryd.underlying23
    go_enter Tryd.func54, Tryd.ntmps54
    go_wp2
    go_ret
    exact ⟨_, rfl, Own.nil _ _ _, Kp.refl _ _, by simp⟩
  | some x =>
    have ho0 : Own (w.alloc (.cells #[] 5)) w.heap.size 5 (.slice (some ⟨w.heap.size, 0, none⟩) 0 0) [] := own_new (Nat.le_refl _) _ [] (Nat.zero_le _)
    have ho0' := Lib.hid ho0
    clear ho0
    have hnl := fun (w : World) => Lib.run_eql_slice_nil (P := Tryd.prog) w 23 5 (some x) bs.length cap 0 0 Tryd.underlying23
    go_enter Tryd.func54, Tryd.ntmps54
    go_wp2_with (at_builtin; refine wpList_app rfl _ _ 23 rfl w.heap.size elemB (.slice (some ⟨w.heap.size, 0, none⟩) 0 0) rfl ho0'.out (by simp) (bv bs) rfl (bv_length bs) (Rd.no hc'.out.rd ((Kp.refl _ w).alloc _)) (bv_one bs) (by rw [bv_length]; simp [maxLen]; omega) (by rw [bv_length]; simp; omega) hn ?_; intro v w1 ho hk hz; have ho' := Lib.hid ho; have hk' := Lib.hid hk; have hz' := Lib.hid hz; clear ho hk hz)
    go_ret
    refine ⟨v, rfl, by simpa using ho'.out, ?_, ?_⟩
    · exact ((Kp.refl _ w).alloc _).then hk'.out (fun _ _ h => h) (fun k hk h => by simp [Value.ownBlock] at h; omega)
    · show v = _ ↔ _
      rw [hz'.out]; simp

/-- The four bytes of a sum. -/
def sumB (s : BitVec 32) : List (BitVec 8) := [s.setWidth 8, (s >>> 8).setWidth 8, (s >>> 16).setWidth 8, (s >>> 24).setWidth 8]
def cOf (bs : List (BitVec 8)) : Nat → BitVec 8 := fun i => bs.getD i 0
def sumOf (bs : List (BitVec 8)) : BitVec 32 := more 0#32 (cOf bs) bs.length
def sealed (bs : List (BitVec 8)) : List (BitVec 8) := bs ++ sumB (sumOf bs)

theorem byte_of (s : BitVec 32) (k m : Nat) (h : m = 2 ^ k) : U s / (m : Int) % 256 = U ((s >>> k).setWidth 8) := by
  subst h
  have e : ((s >>> k).setWidth 8).toNat = s.toNat / 2 ^ k % 256 := by
    rw [BitVec.toNat_setWidth, BitVec.toNat_ushiftRight, Nat.shiftRight_eq_div_pow]
  unfold U
  rw [e, Int.natCast_emod, Int.natCast_ediv]
  rfl

theorem byte_0 (s : BitVec 32) : U s % (256 : Int) = U (s.setWidth 8) := by
  have h := byte_of s 0 1 rfl
  simpa using h
theorem byte_1 (s : BitVec 32) : U s / (256 : Int) % (256 : Int) = U ((s >>> 8).setWidth 8) := byte_of s 8 256 rfl
theorem byte_2 (s : BitVec 32) : U s / (65536 : Int) % (256 : Int) = U ((s >>> 16).setWidth 8) := byte_of s 16 65536 rfl
theorem byte_3 (s : BitVec 32) : U s / (16777216 : Int) = U ((s >>> 24).setWidth 8) := by
  have h : U s / (16777216 : Int) % (256 : Int) = U ((s >>> 24).setWidth 8) := byte_of s 24 16777216 rfl
  have h2 := U_lt32 s
  have h3 := U_nn s
  rw [← h]
  omega

theorem seal_c (a : Option Addr) (n cap : Nat) (bs : List (BitVec 8)) (w : World) (hl : bs.length = n) (hm : bs.length ≤ 6000) (hn : a = none → cap = 0) (hc : RdB w a bs) :
    Calls Tryd.prog 31 #[.slice a n cap] w (GivesB w 5 (sealed bs) fun _ => True) := by
  subst hl
  have hc' := Lib.hid hc
  clear hc
  have h1 := U_nn (sumOf bs)
  have h2 := U_lt32 (sumOf bs)
  go_enter Tryd.func31, Tryd.ntmps31
  go_wp2_with fail
  refine (clone_c a _ cap bs w rfl (by omega) hn hc'.out).mono ?_
  rintro e w1 ⟨v, rfl, ho, hk, -⟩
  have ho' := Lib.hid ho
  have hk' := Lib.hid hk
  clear ho hk
  go_wp2_with fail
  refine (sum_c a bs.length cap (cOf bs) w1 (by omega) (Rd.no hc'.out hk'.out)).mono ?_
  rintro e w' ⟨rfl, rfl⟩
  rw [show more 0#32 (cOf bs) bs.length = sumOf bs from rfl]
  go_wp2_with fail
  go_loopw [3, 5] (fun o i wr => ∃ k : Nat, k ≤ 4 ∧ i = .int .i64 k ∧ Hid (Own wr w.heap.size 5 o (bv (bs ++ (sumB (sumOf bs)).take k))) ∧ Hid (Kp no w wr)) (fun _ i _ => 4 - (intOf i).toNat)
  case atStart => exact ⟨0, by omega, rfl, Lib.hid (by simpa using ho'.out), hk'⟩
  case round =>
    obtain ⟨k, hk, rfl, hown, hkp⟩ := hrel
    by_cases hlt : k < 4
    · have hks : k = 0 ∨ k = 1 ∨ k = 2 ∨ k = 3 := by omega
      have hsz := hkp.out.size
      rcases hks with rfl | rfl | rfl | rfl
      · go_wp2_with (at_builtin; refine wpList_app rfl _ _ 23 rfl w.heap.size elemB _ rfl (hown.out.no ((Kp.refl _ wr).alloc _)) (by simp; omega) [_] rfl rfl (rd_new _ _ _) (by simp [Value.oneCell']) (by simp [bv_length, maxLen]; omega) (by simp [bv_length]; omega) (by simp) ?_; intro v w1 ho hk hz; have ho' := Lib.hid ho; have hk' := Lib.hid hk; clear ho hk hz)
        go_roundw
        case rel =>
          refine ⟨1, by omega, by go_num, Lib.hid ?_, Lib.hid ((hkp.out.alloc _).then hk'.out (fun _ _ h => h) (fun i hi h => ?_))⟩
          · have := ho'.out
            rw [byte_0] at this
            simpa [bv, sumB] using this
          · exact absurd (hown.out.block h).1 (by omega)
        case measure => simp [intOf]
      · go_wp2_with (at_builtin; refine wpList_app rfl _ _ 23 rfl w.heap.size elemB _ rfl (hown.out.no ((Kp.refl _ wr).alloc _)) (by simp; omega) [_] rfl rfl (rd_new _ _ _) (by simp [Value.oneCell']) (by simp [bv_length, maxLen]; omega) (by simp [bv_length]; omega) (by simp) ?_; intro v w1 ho hk hz; have ho' := Lib.hid ho; have hk' := Lib.hid hk; clear ho hk hz)
        go_roundw
        case rel =>
          refine ⟨2, by omega, by go_num, Lib.hid ?_, Lib.hid ((hkp.out.alloc _).then hk'.out (fun _ _ h => h) (fun i hi h => ?_))⟩
          · have := ho'.out
            rw [byte_1] at this
            simpa [bv, sumB] using this
          · exact absurd (hown.out.block h).1 (by omega)
        case measure => simp [intOf]
      · go_wp2_with (at_builtin; refine wpList_app rfl _ _ 23 rfl w.heap.size elemB _ rfl (hown.out.no ((Kp.refl _ wr).alloc _)) (by simp; omega) [_] rfl rfl (rd_new _ _ _) (by simp [Value.oneCell']) (by simp [bv_length, maxLen]; omega) (by simp [bv_length]; omega) (by simp) ?_; intro v w1 ho hk hz; have ho' := Lib.hid ho; have hk' := Lib.hid hk; clear ho hk hz)
        go_roundw
        case rel =>
          refine ⟨3, by omega, by go_num, Lib.hid ?_, Lib.hid ((hkp.out.alloc _).then hk'.out (fun _ _ h => h) (fun i hi h => ?_))⟩
          · have := ho'.out
            rw [byte_2] at this
            simpa [bv, sumB] using this
          · exact absurd (hown.out.block h).1 (by omega)
        case measure => simp [intOf]
      · go_wp2_with (at_builtin; refine wpList_app rfl _ _ 23 rfl w.heap.size elemB _ rfl (hown.out.no ((Kp.refl _ wr).alloc _)) (by simp; omega) [_] rfl rfl (rd_new _ _ _) (by simp [Value.oneCell']) (by simp [bv_length, maxLen]; omega) (by simp [bv_length]; omega) (by simp) ?_; intro v w1 ho hk hz; have ho' := Lib.hid ho; have hk' := Lib.hid hk; clear ho hk hz)
        go_roundw
        case rel =>
          refine ⟨4, by omega, by go_num, Lib.hid ?_, Lib.hid ((hkp.out.alloc _).then hk'.out (fun _ _ h => h) (fun i hi h => ?_))⟩
          · have := ho'.out
            rw [byte_3] at this
            simpa [bv, sumB] using this
          · exact absurd (hown.out.block h).1 (by omega)
        case measure => simp [intOf]
    · obtain rfl : k = 4 := by omega
      go_wp2_with fail
      go_ret
      exact ⟨_, rfl, hown.out, hkp.out, trivial⟩

theorem getD_eq_of {xs ys : List (BitVec 8)} (hl : xs.length = ys.length) (h : ∀ j, j < xs.length → xs.getD j 0 = ys.getD j 0) : xs = ys := by
  apply List.ext_getElem hl
  intro i h1 h2
  have := h i h1
  simpa [List.getD_eq_getElem?_getD, List.getElem?_eq_getElem h1, List.getElem?_eq_getElem h2] using this


theorem equal_eq (a1 a2 : Option Addr) (cap1 cap2 n : Nat) (f g : Nat → BitVec 8) (w : World) (hl : n ≤ 9223372036854775807) (hx : Rd w a1 n fun i => .int .u8 (U (f i))) (hy : Rd w a2 n fun i => .int .u8 (U (g i)))
    (r : Bool) (hr : r = true ↔ ∀ i, i < n → f i = g i) :
    Calls Tryd.prog 40 #[.slice a1 n cap1, .slice a2 n cap2] w fun e w' => e = .returned (.bool r) ∧ Kp no w w' := by
  have hx' := Lib.hid hx
  have hy' := Lib.hid hy
  have hr' := Lib.hid hr
  clear hx hy hr
  go_enter Tryd.func40, Tryd.ntmps40
  go_wp2
  go_loopw [13] (fun i wr => ∃ k : Nat, k ≤ n ∧ i = .int .i64 k ∧ Hid (∀ j, j < k → f j = g j) ∧ Hid (Kp no w wr)) (fun i _ => n - (intOf i).toNat)
  case atStart => exact ⟨0, by omega, rfl, Lib.hid (fun j hj => by omega), Lib.hid (Kp.refl _ _)⟩
  case round =>
    obtain ⟨k, hk, rfl, hp, hkp⟩ := hrel
    by_cases hlt : k < n
    · obtain ⟨b1, o1, rfl, h1⟩ := Rd.no hx'.out hkp.out k hlt
      obtain ⟨b2, o2, rfl, h2⟩ := Rd.no hy'.out hkp.out k hlt
      have h0 : 0 ≤ (k : Int) := by omega
      have hlt' : (k : Int) < (n : Int) := by omega
      by_cases he : f k = g k
      · have hb : (U (f k) != U (g k)) = false := by simp [he]
        have he' := Lib.hid he
        clear he
        go_wp2_with fail
        go_quiet (fail)
        go_wp2_with fail
        go_roundw
        case rel => 
          refine ⟨k + 1, by omega, by go_num, Lib.hid (fun j hj => ?_), Lib.hid (hkp.out.trans ((Kp.refl _ _).drewN _))⟩
          by_cases hjk : j = k
          · subst hjk; exact he'.out
          · exact hp.out j (by omega)
        case measure => simp [intOf]; omega
      · have hb : (U (f k) != U (g k)) = true := by simp; exact fun h => he (U_inj h)
        have hrf : r = false := by
          cases r with
          | false => rfl
          | true => exact absurd (hr'.out.1 rfl k hlt) he
        subst hrf
        clear he
        go_wp2_with fail
        go_quiet (fail)
        go_wp2_with fail
        go_ret
        exact ⟨rfl, hkp.out.trans ((Kp.refl _ _).drewN _)⟩
    · obtain rfl : k = n := by omega
      have hrt : r = true := hr'.out.2 hp.out
      subst hrt
      go_wp2_with fail
      go_ret
      exact ⟨rfl, hkp.out⟩

theorem equal_ne (a1 a2 : Option Addr) (cap1 cap2 n m : Nat) (w : World) (h : n ≠ m) :
    Calls Tryd.prog 40 #[.slice a1 n cap1, .slice a2 m cap2] w fun e w' => e = .returned (.bool false) ∧ w = w' := by
  have hne : (n != m) = true := by simp [h]
  have h' := Lib.hid h
  clear h
  go_enter Tryd.func40, Tryd.ntmps40
  go_wp2
  go_ret
  exact ⟨rfl, rfl⟩

theorem equal_c (a1 a2 : Option Addr) (n m cap1 cap2 : Nat) (xs ys : List (BitVec 8)) (w : World) (hn : xs.length = n) (hm : ys.length = m) (hl : xs.length ≤ 9223372036854775807) (hx : RdB w a1 xs) (hy : RdB w a2 ys) :
    Calls Tryd.prog 40 #[.slice a1 n cap1, .slice a2 m cap2] w fun e w' => e = .returned (.bool (decide (xs = ys))) ∧ Kp no w w' := by
  subst hn hm
  by_cases hn : xs.length = ys.length
  · have hy2 : Rd w a2 xs.length fun i => .int .u8 (U (ys.getD i 0)) := by rw [hn]; exact hy
    rw [← hn]
    refine equal_eq a1 a2 cap1 cap2 xs.length (fun i => xs.getD i 0) (fun i => ys.getD i 0) w hl hx hy2 _ ?_
    rw [decide_eq_true_iff]
    exact ⟨fun h => by subst h; intros; rfl, getD_eq_of hn⟩
  · refine (equal_ne a1 a2 cap1 cap2 _ _ w hn).mono fun e w' h => ⟨?_, by rw [← h.2]; exact Kp.refl _ _⟩
    rw [h.1, show decide (xs = ys) = false from by simp; rintro rfl; exact hn rfl]

/-- What a call hands back beside a number: a slice of its own with the bytes bs; nothing that was there has turned. -/
def GivesBE (w : World) (e : TypeId) (bs : List (BitVec 8)) (n : Int) (r : Ending) (w' : World) : Prop :=
  ∃ v, r = .returned (.tuple #[v, .int .i64 n]) ∧ Own w' w.heap.size e v (bv bs) ∧ Kp no w w'

/-- What was sealed, or nothing. -/
def opened (bs : List (BitVec 8)) : List (BitVec 8) := if 4 ≤ bs.length ∧ sealed (bs.take (bs.length - 4)) = bs then bs.take (bs.length - 4) else []
def openE (bs : List (BitVec 8)) : Int := if 4 ≤ bs.length ∧ sealed (bs.take (bs.length - 4)) = bs then 0 else 40

theorem RdB.take {w : World} {a : Option Addr} {bs : List (BitVec 8)} (h : RdB w a bs) (k : Nat) (hk : k ≤ bs.length) : RdB w a (bs.take k) := by
  unfold RdB
  rw [List.length_take, Nat.min_eq_left hk]
  refine (Rd.mono h hk).congr fun i hi => ?_
  rw [List.getD_eq_getElem?_getD, List.getD_eq_getElem?_getD, List.getElem?_take, if_pos hi]

theorem open_c (a : Option Addr) (n cap : Nat) (bs : List (BitVec 8)) (w : World) (hl : bs.length = n) (hm : bs.length ≤ 6000) (hcap : n ≤ cap) (hcm : cap ≤ 9223372036854775807) (hc : RdB w a bs) :
    Calls Tryd.prog 43 #[.slice a n cap] w (GivesBE w 5 (opened bs) (openE bs)) := by
  subst hl
  have hc' := Lib.hid hc
  by_cases h4 : 4 ≤ bs.length
  · obtain ⟨b, o, rfl, -⟩ := hc 0 (by omega)
    clear hc
    obtain ⟨k, hk⟩ : ∃ k, bs.length = k + 4 := ⟨bs.length - 4, by omega⟩
    have hk' := Lib.hid hk
    have hkl : ((bs.length : Int) - 4) = (k : Int) := by omega
    have htk : (bs.take k).length = k := by rw [List.length_take]; omega
    have htk' := Lib.hid htk
    clear hk htk
    have hlen : (sealed (bs.take k)).length = k + 4 := by simp [sealed, sumB, htk'.out]
    have hlen' := Lib.hid hlen
    clear hlen
    cases hs : decide (sealed (bs.take k) = bs)
    · have e1 : opened bs = [] := by
        have : bs.length - 4 = k := by omega
        simp only [opened, this]; rw [if_neg]; rintro ⟨-, h⟩; rw [decide_eq_false_iff_not] at hs; exact hs h
      have e2 : openE bs = 40 := by
        have : bs.length - 4 = k := by omega
        simp only [openE, this]; rw [if_neg]; rintro ⟨-, h⟩; rw [decide_eq_false_iff_not] at hs; exact hs h
      have e1' := Lib.hid e1
      have e2' := Lib.hid e2
      have hs' := Lib.hid hs
      clear hs e1 e2
      go_enter Tryd.func43, Tryd.ntmps43
      go_wp2_with fail
      refine (seal_c _ k cap (bs.take k) _ htk'.out (by have := htk'.out; omega) (by simp) (hc'.out.take k (by omega))).mono ?_
      rintro e w1 ⟨v, rfl, ho, hkp, -⟩
      rcases ho.form with ⟨rfl, h0⟩ | ⟨g, c2, rfl, -⟩
      · simp [bv, sealed, sumB] at h0
      have ho' := Lib.hid ho
      have hkp' := Lib.hid hkp
      clear ho hkp
      go_wp2_with fail
      refine (equal_c _ _ _ _ _ _ (sealed (bs.take k)) bs _ (bv_length _).symm rfl (by have := hlen'.out; omega) ho'.out.bytes.2 (Rd.no hc'.out hkp'.out)).mono ?_
      rintro e w2 ⟨rfl, hk2⟩
      rw [hs'.out]
      have hk2' := Lib.hid hk2
      clear hk2
      go_wp2_with fail
      go_ret2
      exact ⟨_, by rw [e2'.out]; rfl, by rw [e1'.out]; exact Own.nil _ _ _, hkp'.out.trans hk2'.out⟩
    · have e1 : opened bs = bs.take k := by
        have : bs.length - 4 = k := by omega
        simp only [opened, this]; rw [if_pos ⟨h4, by simpa using hs⟩]
      have e2 : openE bs = 0 := by
        have : bs.length - 4 = k := by omega
        simp only [openE, this]; rw [if_pos ⟨h4, by simpa using hs⟩]
      have e1' := Lib.hid e1
      have e2' := Lib.hid e2
      have hs' := Lib.hid hs
      clear hs e1 e2
      go_enter Tryd.func43, Tryd.ntmps43
      go_wp2_with fail
      refine (seal_c _ k cap (bs.take k) _ htk'.out (by have := htk'.out; omega) (by simp) (hc'.out.take k (by omega))).mono ?_
      rintro e w1 ⟨v, rfl, ho, hkp, -⟩
      rcases ho.form with ⟨rfl, h0⟩ | ⟨g, c2, rfl, -⟩
      · simp [bv, sealed, sumB] at h0
      have ho' := Lib.hid ho
      have hkp' := Lib.hid hkp
      clear ho hkp
      go_wp2_with fail
      refine (equal_c _ _ _ _ _ _ (sealed (bs.take k)) bs _ (bv_length _).symm rfl (by have := hlen'.out; omega) ho'.out.bytes.2 (Rd.no hc'.out hkp'.out)).mono ?_
      rintro e w2 ⟨rfl, hk2⟩
      rw [hs'.out]
      have hk2' := Lib.hid hk2
      clear hk2
      go_wp2_with fail
      refine (clone_c _ k cap (bs.take k) w2 htk'.out (by have := htk'.out; omega) (by simp) (Rd.no (hc'.out.take k (by omega)) (hkp'.out.trans hk2'.out))).mono ?_
      rintro e w3 ⟨v3, rfl, ho3, hk3, -⟩
      have ho3' := Lib.hid ho3
      have hk3' := Lib.hid hk3
      clear ho3 hk3
      go_wp2_with fail
      go_ret2
      exact ⟨v3, by rw [e2'.out]; rfl, by rw [e1'.out]; exact ho3'.out.mono (Nat.le_trans hkp'.out.size hk2'.out.size), (hkp'.out.trans hk2'.out).trans hk3'.out⟩
  · have h5 : (bs.length : Int) - 4 < 0 := by omega
    have e1 : opened bs = [] := by simp [opened, h4]
    have e2 : openE bs = 40 := by simp [openE, h4]
    have e1' := Lib.hid e1
    have e2' := Lib.hid e2
    clear hc e1 e2
    go_enter Tryd.func43, Tryd.ntmps43
    go_wp2
    go_ret2
    exact ⟨_, by rw [e2'.out]; rfl, by rw [e1'.out]; exact Own.nil _ _ _, Kp.refl _ _⟩

end Go.Proofs.YtilpkfgdlehmpaaDoor.Crc

/- The walk of the law CrcNames: the examples of the chapter. -/
import Derived.Test.YtnnopakfnenjfaaDoorParts
namespace Go.Proofs.YtnnopakfnenjfaaDoor
open Go.RowKit
set_option linter.unusedVariables false

theorem own_form {w : World} {base : Nat} {e : TypeId} {v : Value} {bs : List (BitVec 8)} {n : Nat} (h : Own w base e v (bv bs)) (hn : bs.length = n) : ∃ a c, v = .slice a n c := by
  subst hn
  rcases h.form with ⟨rfl, h0⟩ | ⟨g, c, rfl, -⟩
  · have := congrArg List.length h0
    rw [bv_length] at this
    exact ⟨none, 0, by rw [this]; rfl⟩
  · rw [bv_length]; exact ⟨_, _, rfl⟩

theorem seal_num (bs out : List (BitVec 8)) (a : Option Addr) (n cap m : Nat) (w : World) (hl : bs.length = n) (hm : n ≤ 6000) (hn : a = none → cap = 0) (hc : RdB w a bs) (ho : sealed bs = out) (hlo : out.length = m) :
    Calls Tryd.prog 13 #[.slice a n cap] w fun e w' => ∃ a c, e = .returned (.slice a m c) ∧ Own w' w.heap.size 5 (.slice a m c) (bv out) ∧ Kp no w w' := by
  refine (seal_c a n cap bs w hl (by omega) hn hc).mono ?_
  rintro e w' ⟨v, rfl, h, hk, -⟩
  rw [ho] at h
  obtain ⟨a, c, rfl⟩ := own_form h hlo
  exact ⟨a, c, rfl, h, hk⟩

theorem open_num (bs out : List (BitVec 8)) (E : Int) (a : Option Addr) (n cap m : Nat) (w : World) (hl : bs.length = n) (hm : n ≤ 6000) (hcap : n ≤ cap) (hcm : cap ≤ 9223372036854775807) (hc : RdB w a bs) (ho : opened bs = out) (hE : openE bs = E) (hlo : out.length = m) :
    Calls Tryd.prog 14 #[.slice a n cap] w fun e w' => ∃ a c, e = .returned (.tuple #[.slice a m c, .int .i64 E]) ∧ Own w' w.heap.size 5 (.slice a m c) (bv out) ∧ Kp no w w' := by
  refine (open_c a n cap bs w hl (by omega) hcap hcm hc).mono ?_
  rintro e w' ⟨v, rfl, h, hk⟩
  rw [ho] at h
  obtain ⟨a, c, rfl⟩ := own_form h hlo
  exact ⟨a, c, by rw [hE], h, hk⟩

theorem both_num (x y : BitVec 32) (u v z i : Int) (n : Nat) (w : World) (ht : Tab w) (hn : n ≤ 9223372036854775807) (hi : (n : Int) = i) (hu : U x = u) (hv : U y = v) (hz : U (both x y n) = z) :
    Calls Tryd.prog 10 #[.int .u32 u, .int .u32 v, .int .i64 i] w fun e w' => e = .returned (.int .u32 z) ∧ Kp no w w' := by
  subst hi hu hv hz
  exact both_c x y n hn w ht

theorem s_a : sealed [97#8] = [97#8, 67#8, 190#8, 183#8, 232#8] := by decide +kernel
theorem o_a : opened [97#8, 67#8, 190#8, 183#8, 232#8] = [97#8] := by decide +kernel
theorem e_a : openE [97#8, 67#8, 190#8, 183#8, 232#8] = 0 := by decide +kernel
theorem o_b : opened [97#8, 67#8, 190#8, 183#8, 233#8] = [] := by decide +kernel
theorem e_b : openE [97#8, 67#8, 190#8, 183#8, 233#8] = 40 := by decide +kernel
theorem o_c : opened [0#8, 0#8, 0#8] = [] := by decide +kernel
theorem e_c : openE [0#8, 0#8, 0#8] = 40 := by decide +kernel
theorem o_d : opened [0#8, 0#8, 0#8, 0#8] = [] := by decide +kernel
theorem e_d : openE [0#8, 0#8, 0#8, 0#8] = 0 := by decide +kernel
theorem b_a : U (both (sumOf [49#8, 50#8, 51#8, 52#8, 53#8]) (sumOf [54#8, 55#8, 56#8, 57#8]) 4) = 3421780262 := by decide +kernel
theorem b_b : U (both 5#32 6#32 0) = 3 := by decide +kernel

set_option maxRecDepth 100000 in
set_option maxHeartbeats 4000000 in
theorem names_c (w : World) (ht : Tab w) : Calls Tryd.prog 5 #[] w fun e w' => e = .returned (.bool true) ∧ Kp no w w' := by
  have ht' := Lib.hid ht
  clear ht
  have kc := fun (w : World) (C : Array Value) (n c : Nat) => Lib.run_convert_bytes_const (P := Tryd.prog) w 22 5 C n c Tryd.underlying22 Tryd.underlying5
  have kc2 : ∀ (w : World) (o : Obj) (C : Array Value) (n c : Nat), (convert 22 22 (.slice (some ⟨w.heap.size + 1, 0, none⟩) n c)).run Tryd.prog ((w.alloc o).alloc (.cells C 5)) = .ok (.slice (some ⟨w.heap.size + 1, 0, none⟩) n c) ((w.alloc o).alloc (.cells C 5 (C.size, C.size + 1))) := fun w o C n c => by
    have h := kc (w.alloc o) C n c
    rwa [World.size_alloc] at h
  go_enter Tryd.func5, Tryd.ntmps5
  go_wp2_with fail
  refine (seal_num [97#8] _ (some ⟨w.heap.size, 0, none⟩) 1 1 5 _ rfl (by omega) (by simp) (RdB.of_rd (rd_new' w 5 (bv [97#8]) (1, 2))) s_a rfl).mono ?_
  rintro e w1 ⟨a1, c1, rfl, o1, k1⟩
  have k1' := Lib.hid (((Kp.refl no w).alloc _).trans k1)
  have o1' := Lib.hid o1
  clear o1 k1
  go_wp2_with fail
  refine (open_num [97#8, 67#8, 190#8, 183#8, 232#8] _ _ (some ⟨w1.heap.size, 0, none⟩) 5 5 1 _ rfl (by omega) (by omega) (by omega) (RdB.of_rd (rd_new' w1 5 (bv [97#8, 67#8, 190#8, 183#8, 232#8]) (5, 6))) o_a e_a rfl).mono ?_
  rintro e w2 ⟨a2, c2, rfl, o2, k2⟩
  have k2' := Lib.hid (((Kp.refl no w1).alloc _).trans k2)
  have o2' := Lib.hid o2
  clear o2 k2
  go_wp2_with fail
  refine (open_num [97#8, 67#8, 190#8, 183#8, 233#8] _ _ (some ⟨w2.heap.size, 0, none⟩) 5 5 0 _ rfl (by omega) (by omega) (by omega) (RdB.of_rd (rd_new' w2 5 (bv [97#8, 67#8, 190#8, 183#8, 233#8]) (5, 6))) o_b e_b rfl).mono ?_
  rintro e w3 ⟨a3, c3, rfl, -, k3⟩
  have k3' := Lib.hid (((Kp.refl no w2).alloc _).trans k3)
  clear k3
  go_wp2_with fail
  refine (open_num [0#8, 0#8, 0#8] _ _ (some ⟨w3.heap.size, 0, none⟩) 3 3 0 _ rfl (by omega) (by omega) (by omega) (RdB.of_rd (rd_new w3 5 (bv [0#8, 0#8, 0#8]))) o_c e_c rfl).mono ?_
  rintro e w4 ⟨a4, c4, rfl, -, k4⟩
  have k4' := Lib.hid (((Kp.refl no w3).alloc _).trans k4)
  clear k4
  go_wp2_with fail
  refine (open_num [0#8, 0#8, 0#8, 0#8] _ _ (some ⟨w4.heap.size, 0, none⟩) 4 4 0 _ rfl (by omega) (by omega) (by omega) (RdB.of_rd (rd_new w4 5 (bv [0#8, 0#8, 0#8, 0#8]))) o_d e_d rfl).mono ?_
  rintro e w5 ⟨a5, c5, rfl, -, k5⟩
  have k5' := Lib.hid (((Kp.refl no w4).alloc _).trans k5)
  clear k5
  go_wp2_with fail
  refine (sum_num [49#8, 50#8, 51#8, 52#8, 53#8] (some ⟨w5.heap.size, 0, none⟩) 5 5 _ _ rfl (by omega) (RdB.of_rd (rd_new' w5 5 (bv [49#8, 50#8, 51#8, 52#8, 53#8]) (5, 6))) rfl).mono ?_
  rintro e w' ⟨rfl, rfl⟩
  go_wp2_with fail
  refine (sum_num [54#8, 55#8, 56#8, 57#8] (some ⟨w5.heap.size + 1, 0, none⟩) 4 4 _ _ rfl (by omega) (RdB.of_rd (by have h := rd_new' (w5.alloc (.cells (bv [49#8, 50#8, 51#8, 52#8, 53#8]).toArray 5 (5, 6))) 5 (bv [54#8, 55#8, 56#8, 57#8]) (4, 5); rw [World.size_alloc] at h; exact h)) rfl).mono ?_
  rintro e w' ⟨rfl, rfl⟩
  go_wp2_with fail
  have k05 := (((k1'.out.trans k2'.out).trans k3'.out).trans k4'.out).trans k5'.out
  have k06 : Kp no w ((w5.alloc (.cells (bv [49#8, 50#8, 51#8, 52#8, 53#8]).toArray 5 (5, 6))).alloc (.cells #[.int .u8 54, .int .u8 55, .int .u8 56, .int .u8 57] 5 (4, 5))) := (k05.alloc _).alloc _
  have k56 : Kp no w5 ((w5.alloc (.cells (bv [49#8, 50#8, 51#8, 52#8, 53#8]).toArray 5 (5, 6))).alloc (.cells #[.int .u8 54, .int .u8 55, .int .u8 56, .int .u8 57] 5 (4, 5))) := ((Kp.refl no w5).alloc _).alloc _
  generalize ((w5.alloc _).alloc _) = w6 at k06 k56 ⊢
  have t6 := ht'.out.no k06
  refine (both_num (sumOf [49#8, 50#8, 51#8, 52#8, 53#8]) (sumOf [54#8, 55#8, 56#8, 57#8]) _ _ 3421780262 _ 4 w6 t6 (by omega) rfl rfl rfl b_a).mono ?_
  rintro e w7 ⟨rfl, k7⟩
  have k07 := k06.trans k7
  have k57 := k56.trans k7
  have k07' := Lib.hid k07
  have k57' := Lib.hid k57
  clear k05 k06 k56 t6 k7 k07 k57
  go_wp2_with fail
  refine (alive_c w7).mono ?_
  rintro e w8 ⟨rfl, k8⟩
  have k08' := Lib.hid (k07'.out.trans k8)
  have r1 := run_str (P := Tryd.prog) Tryd.underlying22 Tryd.underlying5 Tryd.underlying9 rfl (((((o1'.out.no k2'.out).no k3'.out).no k4'.out).no k5'.out).no (k57'.out.trans k8)).bytes.2 (n := 5) (c := c1) (t := 22) (s := 9)
  have r2 := run_str (P := Tryd.prog) Tryd.underlying22 Tryd.underlying5 Tryd.underlying9 rfl ((((o2'.out.no k3'.out).no k4'.out).no k5'.out).no (k57'.out.trans k8)).bytes.2 (n := 1) (c := c2) (t := 22) (s := 9)
  rw [show strB [97#8, 67#8, 190#8, 183#8, 232#8] = ⟨#[97, 67, 190, 183, 232]⟩ from rfl] at r1
  rw [show strB [97#8] = ⟨#[97]⟩ from rfl] at r2
  clear k8 o1' o2' k1' k2' k3' k4' k5' k57' k07'
  go_wp2_with fail
  refine (both_num 5#32 6#32 _ _ 3 _ 0 w8 (ht'.out.no k08'.out) (by omega) rfl rfl rfl b_b).mono ?_
  rintro e w9 ⟨rfl, k9⟩
  have k09' := Lib.hid (k08'.out.trans k9)
  clear k9 k08' r1 r2
  go_wp2_with fail
  refine (both_neg 5#32 6#32 (-1) (by omega) w9).mono ?_
  rintro e w10 ⟨rfl, rfl⟩
  go_wp2_with fail
  go_ret
  exact ⟨rfl, k09'.out⟩

theorem names_w (w : World) (ht : Lib.TabIs Tryd.prog w "math/bits.deBruijn32tab" .u8 tz32) : Calls Tryd.prog 5 #[] w fun e w' => e = .returned (.bool true) ∧ Below w.heap.size w w' :=
  (names_c w (tab_of ht)).mono fun e w' hh => ⟨hh.1, hh.2.self_below⟩
end Go.Proofs.YtnnopakfnenjfaaDoor

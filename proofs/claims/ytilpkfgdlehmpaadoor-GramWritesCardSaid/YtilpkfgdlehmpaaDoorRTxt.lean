/- mullionref18.Name, Text. -/
import Derived.Test.YtilpkfgdlehmpaaDoorRDig
import Derived.Test.YtilpkfgdlehmpaaDoorMay
namespace Go.Proofs.YtilpkfgdlehmpaaDoor
open Go.RowKit Go.Shelf
set_option linter.unusedVariables false

/-- What a line's beginning reads; with a space behind it. -/
def lnB (l : List UInt8) (us : List Nat) : ByteArray := ⟨(l ++ Lib.joinTail [32] (us.map Lib.decDigits)).toArray⟩
def lnC (l : List UInt8) (us : List Nat) : ByteArray := ⟨(l ++ Lib.joinTail [32] (us.map Lib.decDigits) ++ [32]).toArray⟩
theorem lnB_sp (l : List UInt8) (us : List Nat) : lnB l us ++ ⟨#[32]⟩ = lnC l us := by
  apply ByteArray.ext
  simp [lnB, lnC]
theorem lnC_dec (l : List UInt8) (us : List Nat) (u : Nat) : lnC l us ++ decS u = lnB l (us ++ [u]) := by
  apply ByteArray.ext
  simp [lnB, lnC, decS, Lib.joinTail]
theorem lnB_len (k : Int) (us : List Nat) (h : ∀ u ∈ us, u < 18446744073709551616) (hl : us.length ≤ 10) : (lnB (nameK k) us).size ≤ 300 := by
  have h1 := nameK_len k
  have h2 := joinTail_len us h
  simp only [lnB, ByteArray.size, List.size_toArray, List.length_append]
  omega
theorem lnC_len (k : Int) (us : List Nat) (h : ∀ u ∈ us, u < 18446744073709551616) (hl : us.length ≤ 10) : (lnC (nameK k) us).size ≤ 301 := by
  have h1 := nameK_len k
  have h2 := joinTail_len us h
  simp only [lnC, ByteArray.size, List.size_toArray, List.length_append, List.length_singleton]
  omega
theorem decS_len (u : Nat) (h : u < 18446744073709551616) : (decS u).size ≤ 21 := by
  have h2 := joinTail_len [u] (by intro x hx; rw [List.mem_singleton.1 hx]; exact h)
  simp [Lib.joinTail] at h2
  simp only [decS, ByteArray.size, List.size_toArray]
  omega

set_option maxRecDepth 100000 in
set_option maxHeartbeats 4000000 in
theorem rname_c (k : Nat) (h1 : 1 ≤ k) (h3 : k ≤ 3) {L : List Pc} {w : World} (H : SL w L) :
    Calls Tryd.prog 16 #[.int .i64 k] w fun e w' => e = .returned (.string (lnB (nameK k) [])) ∧ SL w' L := by
  have hH := Lib.hid (H.alloc [.string ⟨#[]⟩, .string ⟨#[98, 101, 97, 116]⟩, .string ⟨#[100, 97, 116, 97]⟩, .string ⟨#[97, 99, 107]⟩] 9)
  clear H
  have q1 := hH.out.cell (b := w.heap.size) (o := 1) (.here _ _) rfl
  have q2 := hH.out.cell (b := w.heap.size) (o := 2) (.here _ _) rfl
  have q3 := hH.out.cell (b := w.heap.size) (o := 3) (.here _ _) rfl
  obtain rfl | rfl | rfl : k = 1 ∨ k = 2 ∨ k = 3 := by omega
  all_goals
    go_enter Tryd.func16, Tryd.ntmps16
    go_wp2_with fail
    go_ret
    exact ⟨rfl, hH.out.tail⟩

set_option maxRecDepth 100000 in
set_option maxHeartbeats 8000000 in
theorem rtxt_c (g : Gm) (ok : GmOk g) (a : Option Addr) (c : Nat) {L : List Pc} {w : World} (H : SL w L) (hl : g.data.length ≤ 1000) :
    Calls Tryd.prog 14 #[gmV g (.slice a g.data.length c)] w fun e w' => e = .returned (.string (lineS g)) ∧ SL w' L := by
  have hmx : Tryd.prog.follows .mixedOrders = true := by kernel_rfl
  have hH := Lib.hid (H.alloc (gmC g (.slice a g.data.length c)) 25)
  have hchk := Lib.hid (fun w L H M hM => may_c g a c (w := w) (L := L) H M hM)
  have hok := Lib.hid ok
  obtain ⟨S0, hS0⟩ : ∃ S0, lineS g = S0 := ⟨_, rfl⟩
  have hbad : Hid (¬ mayK g → S0 = ⟨#[]⟩) := Lib.hid fun h => by rw [← hS0, lineS, if_neg h]
  have hgood : Hid (mayK g → S0 = ⟨(lineK g).toArray⟩) := Lib.hid fun h => by rw [← hS0, lineS, if_pos h]
  rw [hS0]
  clear hS0 H ok
  obtain ⟨dl, hdl⟩ : ∃ dl, g.data.length = dl := ⟨_, rfl⟩
  have hdl' := Lib.hid hdl
  rw [hdl] at hH hchk hl ⊢
  clear hdl
  have hgv : gmV g (.slice a dl c) = .agg #[.int .i64 g.fr, .int .i64 g.dst, .int .i64 g.kind, .int .u64 g.n, .int .i64 g.by', .int .u64 g.seq, .int .u64 g.ack, .int .u64 g.mask, .slice a dl c] := rfl
  rw [hgv] at hchk ⊢
  clear hgv
  unfold gmC at hH
  by_cases hm : mayK g
  · have hm1 := hm.1
    have hm2 := hm.2.1
    have hm3 := hm.2.2.1
    have hm4 : 1 ≤ g.kind ∧ g.kind ≤ 3 := by have := hm.2.2.2.2; unfold formK at this; omega
    unfold nodeK at hm1 hm2 hm3
    have hk0 := Lib.hid (hchk.out _ _ hH.out true (decide_eq_true hm))
    have hgo := Lib.hid (hgood.out hm)
    have hn0 := hok.out.n
    have hsq0 := hok.out.seq
    have hak0 := hok.out.ack
    have hms0 := hok.out.mask
    obtain ⟨KI, hKI⟩ := Int.eq_ofNat_of_zero_le (show 0 ≤ g.kind by omega)
    obtain ⟨FR, hFR⟩ := Int.eq_ofNat_of_zero_le hm1.1
    obtain ⟨DS, hDS⟩ := Int.eq_ofNat_of_zero_le hm2.1
    obtain ⟨NN, hNN⟩ := Int.eq_ofNat_of_zero_le hn0.1
    obtain ⟨BY, hBY⟩ := Int.eq_ofNat_of_zero_le hm3.1
    obtain ⟨SQ, hSQ⟩ := Int.eq_ofNat_of_zero_le hsq0.1
    obtain ⟨AK, hAK⟩ := Int.eq_ofNat_of_zero_le hak0.1
    obtain ⟨MS, hMS⟩ := Int.eq_ofNat_of_zero_le hms0.1
    have hN64 : Hid (NN < 18446744073709551616) := Lib.hid (by have := hn0.2; omega)
    have hS64 : Hid (SQ < 18446744073709551616) := Lib.hid (by have := hsq0.2; omega)
    have hA64 : Hid (AK < 18446744073709551616) := Lib.hid (by have := hak0.2; omega)
    have hM64 : Hid (MS < 18446744073709551616) := Lib.hid (by have := hms0.2; omega)
    have hline : Hid (lineK g = nameK (KI : Int) ++ Lib.joinTail [32] (([FR, DS, NN, BY] ++ (if KI = 1 then [] else if KI = 3 then [AK, MS] else [SQ, AK, MS]) ++ (if KI = 2 then [dl] else [])).map Lib.decDigits)) := Lib.hid (by
      unfold lineK numsK fldU fldN fvK
      rw [hKI, hFR, hDS, hNN, hBY, hdl'.out, hSQ, hAK, hMS]
      have hk : KI = 1 ∨ KI = 2 ∨ KI = 3 := by omega
      rcases hk with rfl | rfl | rfl <;> rfl)
    rw [hKI] at hm4
    rw [hFR] at hm1
    rw [hDS] at hm2
    rw [hBY] at hm3
    rw [hKI, hFR, hDS, hNN, hBY, hSQ, hAK, hMS] at hH hk0 ⊢
    clear hKI hFR hDS hNN hBY hn0 hm hbad hgood hchk hSQ hAK hMS hsq0 hak0 hms0 hok
    have hF64 : Hid (FR < 18446744073709551616) := Lib.hid (by omega)
    have hD64 : Hid (DS < 18446744073709551616) := Lib.hid (by omega)
    have hB64 : Hid (BY < 18446744073709551616) := Lib.hid (by omega)
    have hd64 : Hid (dl < 18446744073709551616) := Lib.hid (by omega)
    have hK1 : 1 ≤ KI := by omega
    have hK3 : KI ≤ 3 := by omega
    clear hm4
    have hw1 : IntKind.u64.wrap (FR : Int) = (FR : Int) := by unfold IntKind.wrap; simp [IntKind.bits, IntKind.signed]; omega
    have hw2 : IntKind.u64.wrap (DS : Int) = (DS : Int) := by unfold IntKind.wrap; simp [IntKind.bits, IntKind.signed]; omega
    have hw3 : IntKind.u64.wrap (BY : Int) = (BY : Int) := by unfold IntKind.wrap; simp [IntKind.bits, IntKind.signed]; omega
    have c0 := lnB_sp (nameK (KI : Int)) []
    have c1 := lnC_dec (nameK (KI : Int)) [] FR
    have c2 := lnB_sp (nameK (KI : Int)) [FR]
    have c3 := lnC_dec (nameK (KI : Int)) [FR] DS
    have c4 := lnB_sp (nameK (KI : Int)) [FR, DS]
    have c5 := lnC_dec (nameK (KI : Int)) [FR, DS] NN
    have c6 := lnB_sp (nameK (KI : Int)) [FR, DS, NN]
    have c7 := lnC_dec (nameK (KI : Int)) [FR, DS, NN] BY
    simp only [List.nil_append, List.cons_append] at c0 c1 c2 c3 c4 c5 c6 c7
    have z0 := lnB_len (KI : Int) [] (by simp) (by simp)
    have z1 := lnC_len (KI : Int) [] (by simp) (by simp)
    have z2 := lnB_len (KI : Int) [FR] (by simp; exact hF64.out) (by simp)
    have z3 := lnC_len (KI : Int) [FR] (by simp; exact hF64.out) (by simp)
    have z4 := lnB_len (KI : Int) [FR, DS] (by simp; exact ⟨hF64.out, hD64.out⟩) (by simp)
    have z5 := lnC_len (KI : Int) [FR, DS] (by simp; exact ⟨hF64.out, hD64.out⟩) (by simp)
    have z6 := lnB_len (KI : Int) [FR, DS, NN] (by simp; exact ⟨hF64.out, hD64.out, hN64.out⟩) (by simp)
    have z7 := lnC_len (KI : Int) [FR, DS, NN] (by simp; exact ⟨hF64.out, hD64.out, hN64.out⟩) (by simp)
    have z8 := lnB_len (KI : Int) [FR, DS, NN, BY] (by simp; exact ⟨hF64.out, hD64.out, hN64.out, hB64.out⟩) (by simp)
    have y1 := decS_len FR hF64.out
    have y2 := decS_len DS hD64.out
    have y3 := decS_len NN hN64.out
    have y4 := decS_len BY hB64.out
    have x0 : ¬ 9223372036854775807 < (lnB (nameK (KI : Int)) []).size + 1 := by omega
    have x2 : ¬ 9223372036854775807 < (lnB (nameK (KI : Int)) [FR]).size + 1 := by omega
    have x4 : ¬ 9223372036854775807 < (lnB (nameK (KI : Int)) [FR, DS]).size + 1 := by omega
    have x6 : ¬ 9223372036854775807 < (lnB (nameK (KI : Int)) [FR, DS, NN]).size + 1 := by omega
    have x1 : ¬ 9223372036854775807 < (lnC (nameK (KI : Int)) []).size + (decS FR).size := by omega
    have x3 : ¬ 9223372036854775807 < (lnC (nameK (KI : Int)) [FR]).size + (decS DS).size := by omega
    have x5 : ¬ 9223372036854775807 < (lnC (nameK (KI : Int)) [FR, DS]).size + (decS NN).size := by omega
    have x7 : ¬ 9223372036854775807 < (lnC (nameK (KI : Int)) [FR, DS, NN]).size + (decS BY).size := by omega
    have hz8 : Hid (lnB (nameK (KI : Int)) [FR, DS, NN, BY] = lnB (nameK (KI : Int)) ([FR, DS, NN, BY] ++ [])) := Lib.hid rfl
    go_enter Tryd.func14, Tryd.ntmps14
    go_wp2_with fail
    generalize w.heap.size = G at *
    refine hk0.out.mono ?_
    rintro e w2 ⟨rfl, H2⟩
    clear hk0 hH
    have hH := Lib.hid H2
    clear H2
    go_wp2_with fail
    refine wp_region_held_drew (S := (fun W => W.cell? ⟨G, 0, none⟩ = some (.int .i64 (FR : Int)) ∧ W.cell? ⟨G, 1, none⟩ = some (.int .i64 (DS : Int)) ∧ W.cell? ⟨G, 2, none⟩ = some (.int .i64 (KI : Int)) ∧ W.cell? ⟨G, 3, none⟩ = some (.int .u64 (NN : Int)) ∧ W.cell? ⟨G, 4, none⟩ = some (.int .i64 (BY : Int)))) (by kernel_rfl) ?_ (fun hHeld => ?_)
    · have H := hH.out.drew
      exact ⟨H.cell (b := G) (o := 0) (by first | exact .here _ _ | exact .there (.here _ _) | exact .there (.there (.here _ _)) | exact .there (.there (.there (.here _ _))) | exact .there (.there (.there (.there (.here _ _)))) | exact .there (.there (.there (.there (.there (.here _ _))))) | exact .there (.there (.there (.there (.there (.there (.here _ _)))))) | exact .there (.there (.there (.there (.there (.there (.there (.here _ _))))))) | exact .there (.there (.there (.there (.there (.there (.there (.there (.here _ _)))))))) | exact .there (.there (.there (.there (.there (.there (.there (.there (.there (.here _ _))))))))) | exact .there (.there (.there (.there (.there (.there (.there (.there (.there (.there (.here _ _)))))))))) | exact .there (.there (.there (.there (.there (.there (.there (.there (.there (.there (.there (.here _ _))))))))))) | exact .there (.there (.there (.there (.there (.there (.there (.there (.there (.there (.there (.there (.here _ _)))))))))))) | exact .there (.there (.there (.there (.there (.there (.there (.there (.there (.there (.there (.there (.there (.here _ _)))))))))))))) rfl, H.cell (b := G) (o := 1) (by first | exact .here _ _ | exact .there (.here _ _) | exact .there (.there (.here _ _)) | exact .there (.there (.there (.here _ _))) | exact .there (.there (.there (.there (.here _ _)))) | exact .there (.there (.there (.there (.there (.here _ _))))) | exact .there (.there (.there (.there (.there (.there (.here _ _)))))) | exact .there (.there (.there (.there (.there (.there (.there (.here _ _))))))) | exact .there (.there (.there (.there (.there (.there (.there (.there (.here _ _)))))))) | exact .there (.there (.there (.there (.there (.there (.there (.there (.there (.here _ _))))))))) | exact .there (.there (.there (.there (.there (.there (.there (.there (.there (.there (.here _ _)))))))))) | exact .there (.there (.there (.there (.there (.there (.there (.there (.there (.there (.there (.here _ _))))))))))) | exact .there (.there (.there (.there (.there (.there (.there (.there (.there (.there (.there (.there (.here _ _)))))))))))) | exact .there (.there (.there (.there (.there (.there (.there (.there (.there (.there (.there (.there (.there (.here _ _)))))))))))))) rfl, H.cell (b := G) (o := 2) (by first | exact .here _ _ | exact .there (.here _ _) | exact .there (.there (.here _ _)) | exact .there (.there (.there (.here _ _))) | exact .there (.there (.there (.there (.here _ _)))) | exact .there (.there (.there (.there (.there (.here _ _))))) | exact .there (.there (.there (.there (.there (.there (.here _ _)))))) | exact .there (.there (.there (.there (.there (.there (.there (.here _ _))))))) | exact .there (.there (.there (.there (.there (.there (.there (.there (.here _ _)))))))) | exact .there (.there (.there (.there (.there (.there (.there (.there (.there (.here _ _))))))))) | exact .there (.there (.there (.there (.there (.there (.there (.there (.there (.there (.here _ _)))))))))) | exact .there (.there (.there (.there (.there (.there (.there (.there (.there (.there (.there (.here _ _))))))))))) | exact .there (.there (.there (.there (.there (.there (.there (.there (.there (.there (.there (.there (.here _ _)))))))))))) | exact .there (.there (.there (.there (.there (.there (.there (.there (.there (.there (.there (.there (.there (.here _ _)))))))))))))) rfl, H.cell (b := G) (o := 3) (by first | exact .here _ _ | exact .there (.here _ _) | exact .there (.there (.here _ _)) | exact .there (.there (.there (.here _ _))) | exact .there (.there (.there (.there (.here _ _)))) | exact .there (.there (.there (.there (.there (.here _ _))))) | exact .there (.there (.there (.there (.there (.there (.here _ _)))))) | exact .there (.there (.there (.there (.there (.there (.there (.here _ _))))))) | exact .there (.there (.there (.there (.there (.there (.there (.there (.here _ _)))))))) | exact .there (.there (.there (.there (.there (.there (.there (.there (.there (.here _ _))))))))) | exact .there (.there (.there (.there (.there (.there (.there (.there (.there (.there (.here _ _)))))))))) | exact .there (.there (.there (.there (.there (.there (.there (.there (.there (.there (.there (.here _ _))))))))))) | exact .there (.there (.there (.there (.there (.there (.there (.there (.there (.there (.there (.there (.here _ _)))))))))))) | exact .there (.there (.there (.there (.there (.there (.there (.there (.there (.there (.there (.there (.there (.here _ _)))))))))))))) rfl, H.cell (b := G) (o := 4) (by first | exact .here _ _ | exact .there (.here _ _) | exact .there (.there (.here _ _)) | exact .there (.there (.there (.here _ _))) | exact .there (.there (.there (.there (.here _ _)))) | exact .there (.there (.there (.there (.there (.here _ _))))) | exact .there (.there (.there (.there (.there (.there (.here _ _)))))) | exact .there (.there (.there (.there (.there (.there (.there (.here _ _))))))) | exact .there (.there (.there (.there (.there (.there (.there (.there (.here _ _)))))))) | exact .there (.there (.there (.there (.there (.there (.there (.there (.there (.here _ _))))))))) | exact .there (.there (.there (.there (.there (.there (.there (.there (.there (.there (.here _ _)))))))))) | exact .there (.there (.there (.there (.there (.there (.there (.there (.there (.there (.there (.here _ _))))))))))) | exact .there (.there (.there (.there (.there (.there (.there (.there (.there (.there (.there (.there (.here _ _)))))))))))) | exact .there (.there (.there (.there (.there (.there (.there (.there (.there (.there (.there (.there (.there (.here _ _)))))))))))))) rfl⟩
    have H := hH.out.drew
    generalize World.drew w2 = w3 at *
    clear hH
    refine takeL (i := 0) rfl (by kernel_rfl) (by kernel_rfl) (by kernel_rfl) (fun _ _ _ _ h => h) hHeld ?_ (Or.inl ⟨by rfl, ?_⟩) ?_
    rotate_left
    · intro W hW
      (try dsimp only at hW)
      first | (go_simp; done) | (go_simp; with_reducible rfl)
    ((try simp only [Act.put]); (try simp only [List.setIfInBounds_toArray]); (try simp only [List.set_cons_succ]); (try simp only [List.set_cons_zero]))
    refine takeL (i := 1) rfl (by kernel_rfl) (by kernel_rfl) (by kernel_rfl) (fun _ _ _ _ h => h) hHeld ?_ (Or.inl ⟨by rfl, ?_⟩) ?_
    rotate_left
    · intro W hW
      (try dsimp only at hW)
      first | (go_simp; done) | (go_simp; with_reducible rfl)
    ((try simp only [Act.put]); (try simp only [List.setIfInBounds_toArray]); (try simp only [List.set_cons_succ]); (try simp only [List.set_cons_zero]))
    refine takeL (i := 4) rfl (by kernel_rfl) (by kernel_rfl) (by kernel_rfl) (fun _ _ _ _ h => h) hHeld ?_ (Or.inl ⟨by rfl, ?_⟩) ?_
    rotate_left
    · intro W hW
      (try dsimp only at hW)
      first | (go_simp; done) | (go_simp; with_reducible rfl)
    ((try simp only [Act.put]); (try simp only [List.setIfInBounds_toArray]); (try simp only [List.set_cons_succ]); (try simp only [List.set_cons_zero]))
    refine takeL (i := 5) rfl (by kernel_rfl) (by kernel_rfl) (by kernel_rfl) (fun _ _ _ _ h => h) hHeld ?_ (Or.inl ⟨by rfl, ?_⟩) ?_
    rotate_left
    · intro W hW
      (try dsimp only at hW)
      first | (go_simp; done) | (go_simp; with_reducible rfl)
    ((try simp only [Act.put]); (try simp only [List.setIfInBounds_toArray]); (try simp only [List.set_cons_succ]); (try simp only [List.set_cons_zero]))
    refine takeL (i := 6) rfl (by kernel_rfl) (by kernel_rfl) (by kernel_rfl) (fun _ _ _ _ h => h) hHeld ?_ (Or.inl ⟨by rfl, ?_⟩) ?_
    rotate_left
    · intro W hW
      (try dsimp only at hW)
      first | (go_simp; done) | (go_simp; with_reducible rfl)
    ((try simp only [Act.put]); (try simp only [List.setIfInBounds_toArray]); (try simp only [List.set_cons_succ]); (try simp only [List.set_cons_zero]))
    refine takeL (i := 10) rfl (by kernel_rfl) (by kernel_rfl) (by kernel_rfl) (fun _ _ _ _ h => h) hHeld ?_ (Or.inl ⟨by rfl, ?_⟩) ?_
    rotate_left
    · intro W hW
      (try dsimp only at hW)
      first | (go_simp; done) | (go_simp; with_reducible rfl)
    ((try simp only [Act.put]); (try simp only [List.setIfInBounds_toArray]); (try simp only [List.set_cons_succ]); (try simp only [List.set_cons_zero]))
    refine takeL (i := 11) rfl (by kernel_rfl) (by kernel_rfl) (by kernel_rfl) (fun _ _ _ _ h => h) hHeld ?_ (Or.inl ⟨by rfl, ?_⟩) ?_
    rotate_left
    · intro W hW
      (try dsimp only at hW)
      first | (go_simp; done) | (go_simp; with_reducible rfl)
    ((try simp only [Act.put]); (try simp only [List.setIfInBounds_toArray]); (try simp only [List.set_cons_succ]); (try simp only [List.set_cons_zero]))
    refine takeL (i := 12) rfl (by kernel_rfl) (by kernel_rfl) (by kernel_rfl) (fun _ _ _ _ h => h) hHeld ?_ (Or.inl ⟨by rfl, ?_⟩) ?_
    rotate_left
    · intro W hW
      (try dsimp only at hW)
      first | (go_simp; done) | (go_simp; with_reducible rfl)
    ((try simp only [Act.put]); (try simp only [List.setIfInBounds_toArray]); (try simp only [List.set_cons_succ]); (try simp only [List.set_cons_zero]))
    refine takeL (i := 16) rfl (by kernel_rfl) (by kernel_rfl) (by kernel_rfl) (fun _ _ _ _ h => h) hHeld ?_ (Or.inl ⟨by rfl, ?_⟩) ?_
    rotate_left
    · intro W hW
      (try dsimp only at hW)
      first | (go_simp; done) | (go_simp; with_reducible rfl)
    ((try simp only [Act.put]); (try simp only [List.setIfInBounds_toArray]); (try simp only [List.set_cons_succ]); (try simp only [List.set_cons_zero]))
    refine takeL (i := 17) rfl (by kernel_rfl) (by kernel_rfl) (by kernel_rfl) (fun _ _ _ _ h => h) hHeld ?_ (Or.inl ⟨by rfl, ?_⟩) ?_
    rotate_left
    · intro W hW
      (try dsimp only at hW)
      first | (go_simp; done) | (go_simp; with_reducible rfl)
    ((try simp only [Act.put]); (try simp only [List.setIfInBounds_toArray]); (try simp only [List.set_cons_succ]); (try simp only [List.set_cons_zero]))
    refine takeL (i := 21) rfl (by kernel_rfl) (by kernel_rfl) (by kernel_rfl) (fun _ _ _ _ h => h) hHeld ?_ (Or.inl ⟨by rfl, ?_⟩) ?_
    rotate_left
    · intro W hW
      (try dsimp only at hW)
      first | (go_simp; done) | (go_simp; with_reducible rfl)
    ((try simp only [Act.put]); (try simp only [List.setIfInBounds_toArray]); (try simp only [List.set_cons_succ]); (try simp only [List.set_cons_zero]))
    refine takeL (i := 22) rfl (by kernel_rfl) (by kernel_rfl) (by kernel_rfl) (fun _ _ _ _ h => h) hHeld ?_ (Or.inl ⟨by rfl, ?_⟩) ?_
    rotate_left
    · intro W hW
      (try dsimp only at hW)
      first | (go_simp; done) | (go_simp; with_reducible rfl)
    ((try simp only [Act.put]); (try simp only [List.setIfInBounds_toArray]); (try simp only [List.set_cons_succ]); (try simp only [List.set_cons_zero]))
    refine takeL (i := 23) rfl (by kernel_rfl) (by kernel_rfl) (by kernel_rfl) (fun _ _ _ _ h => h) hHeld ?_ (Or.inl ⟨by rfl, ?_⟩) ?_
    rotate_left
    · intro W hW
      (try dsimp only at hW)
      first | (go_simp; done) | (go_simp; with_reducible rfl)
    ((try simp only [Act.put]); (try simp only [List.setIfInBounds_toArray]); (try simp only [List.set_cons_succ]); (try simp only [List.set_cons_zero]))
    refine callL (i := 2) rfl (by kernel_rfl) (fun K hK => ?_)
    rw [if_pos (by rfl)]
    go_simp
    refine (rname_c KI hK1 hK3 H).mono ?_
    rintro e w4 ⟨rfl, H4⟩
    have H' := H4
    clear H hHeld
    clear H4
    have H := H'
    clear H'
    refine hK.out _ _ ?_ (fun hHeld => ?_)
    · exact ⟨H.cell (b := G) (o := 0) (by first | exact .here _ _ | exact .there (.here _ _) | exact .there (.there (.here _ _)) | exact .there (.there (.there (.here _ _))) | exact .there (.there (.there (.there (.here _ _)))) | exact .there (.there (.there (.there (.there (.here _ _))))) | exact .there (.there (.there (.there (.there (.there (.here _ _)))))) | exact .there (.there (.there (.there (.there (.there (.there (.here _ _))))))) | exact .there (.there (.there (.there (.there (.there (.there (.there (.here _ _)))))))) | exact .there (.there (.there (.there (.there (.there (.there (.there (.there (.here _ _))))))))) | exact .there (.there (.there (.there (.there (.there (.there (.there (.there (.there (.here _ _)))))))))) | exact .there (.there (.there (.there (.there (.there (.there (.there (.there (.there (.there (.here _ _))))))))))) | exact .there (.there (.there (.there (.there (.there (.there (.there (.there (.there (.there (.there (.here _ _)))))))))))) | exact .there (.there (.there (.there (.there (.there (.there (.there (.there (.there (.there (.there (.there (.here _ _)))))))))))))) rfl, H.cell (b := G) (o := 1) (by first | exact .here _ _ | exact .there (.here _ _) | exact .there (.there (.here _ _)) | exact .there (.there (.there (.here _ _))) | exact .there (.there (.there (.there (.here _ _)))) | exact .there (.there (.there (.there (.there (.here _ _))))) | exact .there (.there (.there (.there (.there (.there (.here _ _)))))) | exact .there (.there (.there (.there (.there (.there (.there (.here _ _))))))) | exact .there (.there (.there (.there (.there (.there (.there (.there (.here _ _)))))))) | exact .there (.there (.there (.there (.there (.there (.there (.there (.there (.here _ _))))))))) | exact .there (.there (.there (.there (.there (.there (.there (.there (.there (.there (.here _ _)))))))))) | exact .there (.there (.there (.there (.there (.there (.there (.there (.there (.there (.there (.here _ _))))))))))) | exact .there (.there (.there (.there (.there (.there (.there (.there (.there (.there (.there (.there (.here _ _)))))))))))) | exact .there (.there (.there (.there (.there (.there (.there (.there (.there (.there (.there (.there (.there (.here _ _)))))))))))))) rfl, H.cell (b := G) (o := 2) (by first | exact .here _ _ | exact .there (.here _ _) | exact .there (.there (.here _ _)) | exact .there (.there (.there (.here _ _))) | exact .there (.there (.there (.there (.here _ _)))) | exact .there (.there (.there (.there (.there (.here _ _))))) | exact .there (.there (.there (.there (.there (.there (.here _ _)))))) | exact .there (.there (.there (.there (.there (.there (.there (.here _ _))))))) | exact .there (.there (.there (.there (.there (.there (.there (.there (.here _ _)))))))) | exact .there (.there (.there (.there (.there (.there (.there (.there (.there (.here _ _))))))))) | exact .there (.there (.there (.there (.there (.there (.there (.there (.there (.there (.here _ _)))))))))) | exact .there (.there (.there (.there (.there (.there (.there (.there (.there (.there (.there (.here _ _))))))))))) | exact .there (.there (.there (.there (.there (.there (.there (.there (.there (.there (.there (.there (.here _ _)))))))))))) | exact .there (.there (.there (.there (.there (.there (.there (.there (.there (.there (.there (.there (.there (.here _ _)))))))))))))) rfl, H.cell (b := G) (o := 3) (by first | exact .here _ _ | exact .there (.here _ _) | exact .there (.there (.here _ _)) | exact .there (.there (.there (.here _ _))) | exact .there (.there (.there (.there (.here _ _)))) | exact .there (.there (.there (.there (.there (.here _ _))))) | exact .there (.there (.there (.there (.there (.there (.here _ _)))))) | exact .there (.there (.there (.there (.there (.there (.there (.here _ _))))))) | exact .there (.there (.there (.there (.there (.there (.there (.there (.here _ _)))))))) | exact .there (.there (.there (.there (.there (.there (.there (.there (.there (.here _ _))))))))) | exact .there (.there (.there (.there (.there (.there (.there (.there (.there (.there (.here _ _)))))))))) | exact .there (.there (.there (.there (.there (.there (.there (.there (.there (.there (.there (.here _ _))))))))))) | exact .there (.there (.there (.there (.there (.there (.there (.there (.there (.there (.there (.there (.here _ _)))))))))))) | exact .there (.there (.there (.there (.there (.there (.there (.there (.there (.there (.there (.there (.there (.here _ _)))))))))))))) rfl, H.cell (b := G) (o := 4) (by first | exact .here _ _ | exact .there (.here _ _) | exact .there (.there (.here _ _)) | exact .there (.there (.there (.here _ _))) | exact .there (.there (.there (.there (.here _ _)))) | exact .there (.there (.there (.there (.there (.here _ _))))) | exact .there (.there (.there (.there (.there (.there (.here _ _)))))) | exact .there (.there (.there (.there (.there (.there (.there (.here _ _))))))) | exact .there (.there (.there (.there (.there (.there (.there (.there (.here _ _)))))))) | exact .there (.there (.there (.there (.there (.there (.there (.there (.there (.here _ _))))))))) | exact .there (.there (.there (.there (.there (.there (.there (.there (.there (.there (.here _ _)))))))))) | exact .there (.there (.there (.there (.there (.there (.there (.there (.there (.there (.there (.here _ _))))))))))) | exact .there (.there (.there (.there (.there (.there (.there (.there (.there (.there (.there (.there (.here _ _)))))))))))) | exact .there (.there (.there (.there (.there (.there (.there (.there (.there (.there (.there (.there (.there (.here _ _)))))))))))))) rfl⟩
    clear hK K
    ((try simp only [Act.put]); (try simp only [List.setIfInBounds_toArray]); (try simp only [List.set_cons_succ]); (try simp only [List.set_cons_zero]))
    refine takeL (i := 3) rfl (by kernel_rfl) (by kernel_rfl) (by kernel_rfl) (fun _ _ _ _ h => h) hHeld ?_ (Or.inl ⟨by rfl, ?_⟩) ?_
    rotate_left
    · intro W hW
      (try dsimp only at hW)
      first | (go_simp; done) | (go_simp; with_reducible rfl)
    ((try simp only [Act.put]); (try simp only [List.setIfInBounds_toArray]); (try simp only [List.set_cons_succ]); (try simp only [List.set_cons_zero]))
    refine callL (i := 7) rfl (by kernel_rfl) (fun K hK => ?_)
    rw [if_pos (by rfl)]
    go_simp
    refine (digits_c FR hF64.out H).mono ?_
    rintro e w5 ⟨rfl, H5⟩
    have H' := H5
    clear H hHeld
    clear H5
    have H := H'
    clear H'
    refine hK.out _ _ ?_ (fun hHeld => ?_)
    · exact ⟨H.cell (b := G) (o := 0) (by first | exact .here _ _ | exact .there (.here _ _) | exact .there (.there (.here _ _)) | exact .there (.there (.there (.here _ _))) | exact .there (.there (.there (.there (.here _ _)))) | exact .there (.there (.there (.there (.there (.here _ _))))) | exact .there (.there (.there (.there (.there (.there (.here _ _)))))) | exact .there (.there (.there (.there (.there (.there (.there (.here _ _))))))) | exact .there (.there (.there (.there (.there (.there (.there (.there (.here _ _)))))))) | exact .there (.there (.there (.there (.there (.there (.there (.there (.there (.here _ _))))))))) | exact .there (.there (.there (.there (.there (.there (.there (.there (.there (.there (.here _ _)))))))))) | exact .there (.there (.there (.there (.there (.there (.there (.there (.there (.there (.there (.here _ _))))))))))) | exact .there (.there (.there (.there (.there (.there (.there (.there (.there (.there (.there (.there (.here _ _)))))))))))) | exact .there (.there (.there (.there (.there (.there (.there (.there (.there (.there (.there (.there (.there (.here _ _)))))))))))))) rfl, H.cell (b := G) (o := 1) (by first | exact .here _ _ | exact .there (.here _ _) | exact .there (.there (.here _ _)) | exact .there (.there (.there (.here _ _))) | exact .there (.there (.there (.there (.here _ _)))) | exact .there (.there (.there (.there (.there (.here _ _))))) | exact .there (.there (.there (.there (.there (.there (.here _ _)))))) | exact .there (.there (.there (.there (.there (.there (.there (.here _ _))))))) | exact .there (.there (.there (.there (.there (.there (.there (.there (.here _ _)))))))) | exact .there (.there (.there (.there (.there (.there (.there (.there (.there (.here _ _))))))))) | exact .there (.there (.there (.there (.there (.there (.there (.there (.there (.there (.here _ _)))))))))) | exact .there (.there (.there (.there (.there (.there (.there (.there (.there (.there (.there (.here _ _))))))))))) | exact .there (.there (.there (.there (.there (.there (.there (.there (.there (.there (.there (.there (.here _ _)))))))))))) | exact .there (.there (.there (.there (.there (.there (.there (.there (.there (.there (.there (.there (.there (.here _ _)))))))))))))) rfl, H.cell (b := G) (o := 2) (by first | exact .here _ _ | exact .there (.here _ _) | exact .there (.there (.here _ _)) | exact .there (.there (.there (.here _ _))) | exact .there (.there (.there (.there (.here _ _)))) | exact .there (.there (.there (.there (.there (.here _ _))))) | exact .there (.there (.there (.there (.there (.there (.here _ _)))))) | exact .there (.there (.there (.there (.there (.there (.there (.here _ _))))))) | exact .there (.there (.there (.there (.there (.there (.there (.there (.here _ _)))))))) | exact .there (.there (.there (.there (.there (.there (.there (.there (.there (.here _ _))))))))) | exact .there (.there (.there (.there (.there (.there (.there (.there (.there (.there (.here _ _)))))))))) | exact .there (.there (.there (.there (.there (.there (.there (.there (.there (.there (.there (.here _ _))))))))))) | exact .there (.there (.there (.there (.there (.there (.there (.there (.there (.there (.there (.there (.here _ _)))))))))))) | exact .there (.there (.there (.there (.there (.there (.there (.there (.there (.there (.there (.there (.there (.here _ _)))))))))))))) rfl, H.cell (b := G) (o := 3) (by first | exact .here _ _ | exact .there (.here _ _) | exact .there (.there (.here _ _)) | exact .there (.there (.there (.here _ _))) | exact .there (.there (.there (.there (.here _ _)))) | exact .there (.there (.there (.there (.there (.here _ _))))) | exact .there (.there (.there (.there (.there (.there (.here _ _)))))) | exact .there (.there (.there (.there (.there (.there (.there (.here _ _))))))) | exact .there (.there (.there (.there (.there (.there (.there (.there (.here _ _)))))))) | exact .there (.there (.there (.there (.there (.there (.there (.there (.there (.here _ _))))))))) | exact .there (.there (.there (.there (.there (.there (.there (.there (.there (.there (.here _ _)))))))))) | exact .there (.there (.there (.there (.there (.there (.there (.there (.there (.there (.there (.here _ _))))))))))) | exact .there (.there (.there (.there (.there (.there (.there (.there (.there (.there (.there (.there (.here _ _)))))))))))) | exact .there (.there (.there (.there (.there (.there (.there (.there (.there (.there (.there (.there (.there (.here _ _)))))))))))))) rfl, H.cell (b := G) (o := 4) (by first | exact .here _ _ | exact .there (.here _ _) | exact .there (.there (.here _ _)) | exact .there (.there (.there (.here _ _))) | exact .there (.there (.there (.there (.here _ _)))) | exact .there (.there (.there (.there (.there (.here _ _))))) | exact .there (.there (.there (.there (.there (.there (.here _ _)))))) | exact .there (.there (.there (.there (.there (.there (.there (.here _ _))))))) | exact .there (.there (.there (.there (.there (.there (.there (.there (.here _ _)))))))) | exact .there (.there (.there (.there (.there (.there (.there (.there (.there (.here _ _))))))))) | exact .there (.there (.there (.there (.there (.there (.there (.there (.there (.there (.here _ _)))))))))) | exact .there (.there (.there (.there (.there (.there (.there (.there (.there (.there (.there (.here _ _))))))))))) | exact .there (.there (.there (.there (.there (.there (.there (.there (.there (.there (.there (.there (.here _ _)))))))))))) | exact .there (.there (.there (.there (.there (.there (.there (.there (.there (.there (.there (.there (.there (.here _ _)))))))))))))) rfl⟩
    clear hK K
    ((try simp only [Act.put]); (try simp only [List.setIfInBounds_toArray]); (try simp only [List.set_cons_succ]); (try simp only [List.set_cons_zero]))
    refine takeL (i := 8) rfl (by kernel_rfl) (by kernel_rfl) (by kernel_rfl) (fun _ _ _ _ h => h) hHeld ?_ (Or.inl ⟨by rfl, ?_⟩) ?_
    rotate_left
    · intro W hW
      (try dsimp only at hW)
      first | (go_simp; done) | (go_simp; with_reducible rfl)
    ((try simp only [Act.put]); (try simp only [List.setIfInBounds_toArray]); (try simp only [List.set_cons_succ]); (try simp only [List.set_cons_zero]))
    refine takeL (i := 9) rfl (by kernel_rfl) (by kernel_rfl) (by kernel_rfl) (fun _ _ _ _ h => h) hHeld ?_ (Or.inl ⟨by rfl, ?_⟩) ?_
    rotate_left
    · intro W hW
      (try dsimp only at hW)
      first | (go_simp; done) | (go_simp; with_reducible rfl)
    ((try simp only [Act.put]); (try simp only [List.setIfInBounds_toArray]); (try simp only [List.set_cons_succ]); (try simp only [List.set_cons_zero]))
    refine callL (i := 13) rfl (by kernel_rfl) (fun K hK => ?_)
    rw [if_pos (by rfl)]
    go_simp
    refine (digits_c DS hD64.out H).mono ?_
    rintro e w6 ⟨rfl, H6⟩
    have H' := H6
    clear H hHeld
    clear H6
    have H := H'
    clear H'
    refine hK.out _ _ ?_ (fun hHeld => ?_)
    · exact ⟨H.cell (b := G) (o := 0) (by first | exact .here _ _ | exact .there (.here _ _) | exact .there (.there (.here _ _)) | exact .there (.there (.there (.here _ _))) | exact .there (.there (.there (.there (.here _ _)))) | exact .there (.there (.there (.there (.there (.here _ _))))) | exact .there (.there (.there (.there (.there (.there (.here _ _)))))) | exact .there (.there (.there (.there (.there (.there (.there (.here _ _))))))) | exact .there (.there (.there (.there (.there (.there (.there (.there (.here _ _)))))))) | exact .there (.there (.there (.there (.there (.there (.there (.there (.there (.here _ _))))))))) | exact .there (.there (.there (.there (.there (.there (.there (.there (.there (.there (.here _ _)))))))))) | exact .there (.there (.there (.there (.there (.there (.there (.there (.there (.there (.there (.here _ _))))))))))) | exact .there (.there (.there (.there (.there (.there (.there (.there (.there (.there (.there (.there (.here _ _)))))))))))) | exact .there (.there (.there (.there (.there (.there (.there (.there (.there (.there (.there (.there (.there (.here _ _)))))))))))))) rfl, H.cell (b := G) (o := 1) (by first | exact .here _ _ | exact .there (.here _ _) | exact .there (.there (.here _ _)) | exact .there (.there (.there (.here _ _))) | exact .there (.there (.there (.there (.here _ _)))) | exact .there (.there (.there (.there (.there (.here _ _))))) | exact .there (.there (.there (.there (.there (.there (.here _ _)))))) | exact .there (.there (.there (.there (.there (.there (.there (.here _ _))))))) | exact .there (.there (.there (.there (.there (.there (.there (.there (.here _ _)))))))) | exact .there (.there (.there (.there (.there (.there (.there (.there (.there (.here _ _))))))))) | exact .there (.there (.there (.there (.there (.there (.there (.there (.there (.there (.here _ _)))))))))) | exact .there (.there (.there (.there (.there (.there (.there (.there (.there (.there (.there (.here _ _))))))))))) | exact .there (.there (.there (.there (.there (.there (.there (.there (.there (.there (.there (.there (.here _ _)))))))))))) | exact .there (.there (.there (.there (.there (.there (.there (.there (.there (.there (.there (.there (.there (.here _ _)))))))))))))) rfl, H.cell (b := G) (o := 2) (by first | exact .here _ _ | exact .there (.here _ _) | exact .there (.there (.here _ _)) | exact .there (.there (.there (.here _ _))) | exact .there (.there (.there (.there (.here _ _)))) | exact .there (.there (.there (.there (.there (.here _ _))))) | exact .there (.there (.there (.there (.there (.there (.here _ _)))))) | exact .there (.there (.there (.there (.there (.there (.there (.here _ _))))))) | exact .there (.there (.there (.there (.there (.there (.there (.there (.here _ _)))))))) | exact .there (.there (.there (.there (.there (.there (.there (.there (.there (.here _ _))))))))) | exact .there (.there (.there (.there (.there (.there (.there (.there (.there (.there (.here _ _)))))))))) | exact .there (.there (.there (.there (.there (.there (.there (.there (.there (.there (.there (.here _ _))))))))))) | exact .there (.there (.there (.there (.there (.there (.there (.there (.there (.there (.there (.there (.here _ _)))))))))))) | exact .there (.there (.there (.there (.there (.there (.there (.there (.there (.there (.there (.there (.there (.here _ _)))))))))))))) rfl, H.cell (b := G) (o := 3) (by first | exact .here _ _ | exact .there (.here _ _) | exact .there (.there (.here _ _)) | exact .there (.there (.there (.here _ _))) | exact .there (.there (.there (.there (.here _ _)))) | exact .there (.there (.there (.there (.there (.here _ _))))) | exact .there (.there (.there (.there (.there (.there (.here _ _)))))) | exact .there (.there (.there (.there (.there (.there (.there (.here _ _))))))) | exact .there (.there (.there (.there (.there (.there (.there (.there (.here _ _)))))))) | exact .there (.there (.there (.there (.there (.there (.there (.there (.there (.here _ _))))))))) | exact .there (.there (.there (.there (.there (.there (.there (.there (.there (.there (.here _ _)))))))))) | exact .there (.there (.there (.there (.there (.there (.there (.there (.there (.there (.there (.here _ _))))))))))) | exact .there (.there (.there (.there (.there (.there (.there (.there (.there (.there (.there (.there (.here _ _)))))))))))) | exact .there (.there (.there (.there (.there (.there (.there (.there (.there (.there (.there (.there (.there (.here _ _)))))))))))))) rfl, H.cell (b := G) (o := 4) (by first | exact .here _ _ | exact .there (.here _ _) | exact .there (.there (.here _ _)) | exact .there (.there (.there (.here _ _))) | exact .there (.there (.there (.there (.here _ _)))) | exact .there (.there (.there (.there (.there (.here _ _))))) | exact .there (.there (.there (.there (.there (.there (.here _ _)))))) | exact .there (.there (.there (.there (.there (.there (.there (.here _ _))))))) | exact .there (.there (.there (.there (.there (.there (.there (.there (.here _ _)))))))) | exact .there (.there (.there (.there (.there (.there (.there (.there (.there (.here _ _))))))))) | exact .there (.there (.there (.there (.there (.there (.there (.there (.there (.there (.here _ _)))))))))) | exact .there (.there (.there (.there (.there (.there (.there (.there (.there (.there (.there (.here _ _))))))))))) | exact .there (.there (.there (.there (.there (.there (.there (.there (.there (.there (.there (.there (.here _ _)))))))))))) | exact .there (.there (.there (.there (.there (.there (.there (.there (.there (.there (.there (.there (.there (.here _ _)))))))))))))) rfl⟩
    clear hK K
    ((try simp only [Act.put]); (try simp only [List.setIfInBounds_toArray]); (try simp only [List.set_cons_succ]); (try simp only [List.set_cons_zero]))
    refine takeL (i := 14) rfl (by kernel_rfl) (by kernel_rfl) (by kernel_rfl) (fun _ _ _ _ h => h) hHeld ?_ (Or.inl ⟨by rfl, ?_⟩) ?_
    rotate_left
    · intro W hW
      (try dsimp only at hW)
      first | (go_simp; done) | (go_simp; with_reducible rfl)
    ((try simp only [Act.put]); (try simp only [List.setIfInBounds_toArray]); (try simp only [List.set_cons_succ]); (try simp only [List.set_cons_zero]))
    refine takeL (i := 15) rfl (by kernel_rfl) (by kernel_rfl) (by kernel_rfl) (fun _ _ _ _ h => h) hHeld ?_ (Or.inl ⟨by rfl, ?_⟩) ?_
    rotate_left
    · intro W hW
      (try dsimp only at hW)
      first | (go_simp; done) | (go_simp; with_reducible rfl)
    ((try simp only [Act.put]); (try simp only [List.setIfInBounds_toArray]); (try simp only [List.set_cons_succ]); (try simp only [List.set_cons_zero]))
    refine callL (i := 18) rfl (by kernel_rfl) (fun K hK => ?_)
    rw [if_pos (by rfl)]
    go_simp
    refine (digits_c NN hN64.out H).mono ?_
    rintro e w7 ⟨rfl, H7⟩
    have H' := H7
    clear H hHeld
    clear H7
    have H := H'
    clear H'
    refine hK.out _ _ ?_ (fun hHeld => ?_)
    · exact ⟨H.cell (b := G) (o := 0) (by first | exact .here _ _ | exact .there (.here _ _) | exact .there (.there (.here _ _)) | exact .there (.there (.there (.here _ _))) | exact .there (.there (.there (.there (.here _ _)))) | exact .there (.there (.there (.there (.there (.here _ _))))) | exact .there (.there (.there (.there (.there (.there (.here _ _)))))) | exact .there (.there (.there (.there (.there (.there (.there (.here _ _))))))) | exact .there (.there (.there (.there (.there (.there (.there (.there (.here _ _)))))))) | exact .there (.there (.there (.there (.there (.there (.there (.there (.there (.here _ _))))))))) | exact .there (.there (.there (.there (.there (.there (.there (.there (.there (.there (.here _ _)))))))))) | exact .there (.there (.there (.there (.there (.there (.there (.there (.there (.there (.there (.here _ _))))))))))) | exact .there (.there (.there (.there (.there (.there (.there (.there (.there (.there (.there (.there (.here _ _)))))))))))) | exact .there (.there (.there (.there (.there (.there (.there (.there (.there (.there (.there (.there (.there (.here _ _)))))))))))))) rfl, H.cell (b := G) (o := 1) (by first | exact .here _ _ | exact .there (.here _ _) | exact .there (.there (.here _ _)) | exact .there (.there (.there (.here _ _))) | exact .there (.there (.there (.there (.here _ _)))) | exact .there (.there (.there (.there (.there (.here _ _))))) | exact .there (.there (.there (.there (.there (.there (.here _ _)))))) | exact .there (.there (.there (.there (.there (.there (.there (.here _ _))))))) | exact .there (.there (.there (.there (.there (.there (.there (.there (.here _ _)))))))) | exact .there (.there (.there (.there (.there (.there (.there (.there (.there (.here _ _))))))))) | exact .there (.there (.there (.there (.there (.there (.there (.there (.there (.there (.here _ _)))))))))) | exact .there (.there (.there (.there (.there (.there (.there (.there (.there (.there (.there (.here _ _))))))))))) | exact .there (.there (.there (.there (.there (.there (.there (.there (.there (.there (.there (.there (.here _ _)))))))))))) | exact .there (.there (.there (.there (.there (.there (.there (.there (.there (.there (.there (.there (.there (.here _ _)))))))))))))) rfl, H.cell (b := G) (o := 2) (by first | exact .here _ _ | exact .there (.here _ _) | exact .there (.there (.here _ _)) | exact .there (.there (.there (.here _ _))) | exact .there (.there (.there (.there (.here _ _)))) | exact .there (.there (.there (.there (.there (.here _ _))))) | exact .there (.there (.there (.there (.there (.there (.here _ _)))))) | exact .there (.there (.there (.there (.there (.there (.there (.here _ _))))))) | exact .there (.there (.there (.there (.there (.there (.there (.there (.here _ _)))))))) | exact .there (.there (.there (.there (.there (.there (.there (.there (.there (.here _ _))))))))) | exact .there (.there (.there (.there (.there (.there (.there (.there (.there (.there (.here _ _)))))))))) | exact .there (.there (.there (.there (.there (.there (.there (.there (.there (.there (.there (.here _ _))))))))))) | exact .there (.there (.there (.there (.there (.there (.there (.there (.there (.there (.there (.there (.here _ _)))))))))))) | exact .there (.there (.there (.there (.there (.there (.there (.there (.there (.there (.there (.there (.there (.here _ _)))))))))))))) rfl, H.cell (b := G) (o := 3) (by first | exact .here _ _ | exact .there (.here _ _) | exact .there (.there (.here _ _)) | exact .there (.there (.there (.here _ _))) | exact .there (.there (.there (.there (.here _ _)))) | exact .there (.there (.there (.there (.there (.here _ _))))) | exact .there (.there (.there (.there (.there (.there (.here _ _)))))) | exact .there (.there (.there (.there (.there (.there (.there (.here _ _))))))) | exact .there (.there (.there (.there (.there (.there (.there (.there (.here _ _)))))))) | exact .there (.there (.there (.there (.there (.there (.there (.there (.there (.here _ _))))))))) | exact .there (.there (.there (.there (.there (.there (.there (.there (.there (.there (.here _ _)))))))))) | exact .there (.there (.there (.there (.there (.there (.there (.there (.there (.there (.there (.here _ _))))))))))) | exact .there (.there (.there (.there (.there (.there (.there (.there (.there (.there (.there (.there (.here _ _)))))))))))) | exact .there (.there (.there (.there (.there (.there (.there (.there (.there (.there (.there (.there (.there (.here _ _)))))))))))))) rfl, H.cell (b := G) (o := 4) (by first | exact .here _ _ | exact .there (.here _ _) | exact .there (.there (.here _ _)) | exact .there (.there (.there (.here _ _))) | exact .there (.there (.there (.there (.here _ _)))) | exact .there (.there (.there (.there (.there (.here _ _))))) | exact .there (.there (.there (.there (.there (.there (.here _ _)))))) | exact .there (.there (.there (.there (.there (.there (.there (.here _ _))))))) | exact .there (.there (.there (.there (.there (.there (.there (.there (.here _ _)))))))) | exact .there (.there (.there (.there (.there (.there (.there (.there (.there (.here _ _))))))))) | exact .there (.there (.there (.there (.there (.there (.there (.there (.there (.there (.here _ _)))))))))) | exact .there (.there (.there (.there (.there (.there (.there (.there (.there (.there (.there (.here _ _))))))))))) | exact .there (.there (.there (.there (.there (.there (.there (.there (.there (.there (.there (.there (.here _ _)))))))))))) | exact .there (.there (.there (.there (.there (.there (.there (.there (.there (.there (.there (.there (.there (.here _ _)))))))))))))) rfl⟩
    clear hK K
    ((try simp only [Act.put]); (try simp only [List.setIfInBounds_toArray]); (try simp only [List.set_cons_succ]); (try simp only [List.set_cons_zero]))
    refine takeL (i := 19) rfl (by kernel_rfl) (by kernel_rfl) (by kernel_rfl) (fun _ _ _ _ h => h) hHeld ?_ (Or.inl ⟨by rfl, ?_⟩) ?_
    rotate_left
    · intro W hW
      (try dsimp only at hW)
      first | (go_simp; done) | (go_simp; with_reducible rfl)
    ((try simp only [Act.put]); (try simp only [List.setIfInBounds_toArray]); (try simp only [List.set_cons_succ]); (try simp only [List.set_cons_zero]))
    refine takeL (i := 20) rfl (by kernel_rfl) (by kernel_rfl) (by kernel_rfl) (fun _ _ _ _ h => h) hHeld ?_ (Or.inl ⟨by rfl, ?_⟩) ?_
    rotate_left
    · intro W hW
      (try dsimp only at hW)
      first | (go_simp; done) | (go_simp; with_reducible rfl)
    ((try simp only [Act.put]); (try simp only [List.setIfInBounds_toArray]); (try simp only [List.set_cons_succ]); (try simp only [List.set_cons_zero]))
    refine callL (i := 24) rfl (by kernel_rfl) (fun K hK => ?_)
    rw [if_pos (by rfl)]
    go_simp
    refine (digits_c BY hB64.out H).mono ?_
    rintro e w8 ⟨rfl, H8⟩
    have H' := H8
    clear H hHeld
    clear H8
    have H := H'
    clear H'
    refine hK.out _ _ ?_ (fun hHeld => ?_)
    · exact ⟨H.cell (b := G) (o := 0) (by first | exact .here _ _ | exact .there (.here _ _) | exact .there (.there (.here _ _)) | exact .there (.there (.there (.here _ _))) | exact .there (.there (.there (.there (.here _ _)))) | exact .there (.there (.there (.there (.there (.here _ _))))) | exact .there (.there (.there (.there (.there (.there (.here _ _)))))) | exact .there (.there (.there (.there (.there (.there (.there (.here _ _))))))) | exact .there (.there (.there (.there (.there (.there (.there (.there (.here _ _)))))))) | exact .there (.there (.there (.there (.there (.there (.there (.there (.there (.here _ _))))))))) | exact .there (.there (.there (.there (.there (.there (.there (.there (.there (.there (.here _ _)))))))))) | exact .there (.there (.there (.there (.there (.there (.there (.there (.there (.there (.there (.here _ _))))))))))) | exact .there (.there (.there (.there (.there (.there (.there (.there (.there (.there (.there (.there (.here _ _)))))))))))) | exact .there (.there (.there (.there (.there (.there (.there (.there (.there (.there (.there (.there (.there (.here _ _)))))))))))))) rfl, H.cell (b := G) (o := 1) (by first | exact .here _ _ | exact .there (.here _ _) | exact .there (.there (.here _ _)) | exact .there (.there (.there (.here _ _))) | exact .there (.there (.there (.there (.here _ _)))) | exact .there (.there (.there (.there (.there (.here _ _))))) | exact .there (.there (.there (.there (.there (.there (.here _ _)))))) | exact .there (.there (.there (.there (.there (.there (.there (.here _ _))))))) | exact .there (.there (.there (.there (.there (.there (.there (.there (.here _ _)))))))) | exact .there (.there (.there (.there (.there (.there (.there (.there (.there (.here _ _))))))))) | exact .there (.there (.there (.there (.there (.there (.there (.there (.there (.there (.here _ _)))))))))) | exact .there (.there (.there (.there (.there (.there (.there (.there (.there (.there (.there (.here _ _))))))))))) | exact .there (.there (.there (.there (.there (.there (.there (.there (.there (.there (.there (.there (.here _ _)))))))))))) | exact .there (.there (.there (.there (.there (.there (.there (.there (.there (.there (.there (.there (.there (.here _ _)))))))))))))) rfl, H.cell (b := G) (o := 2) (by first | exact .here _ _ | exact .there (.here _ _) | exact .there (.there (.here _ _)) | exact .there (.there (.there (.here _ _))) | exact .there (.there (.there (.there (.here _ _)))) | exact .there (.there (.there (.there (.there (.here _ _))))) | exact .there (.there (.there (.there (.there (.there (.here _ _)))))) | exact .there (.there (.there (.there (.there (.there (.there (.here _ _))))))) | exact .there (.there (.there (.there (.there (.there (.there (.there (.here _ _)))))))) | exact .there (.there (.there (.there (.there (.there (.there (.there (.there (.here _ _))))))))) | exact .there (.there (.there (.there (.there (.there (.there (.there (.there (.there (.here _ _)))))))))) | exact .there (.there (.there (.there (.there (.there (.there (.there (.there (.there (.there (.here _ _))))))))))) | exact .there (.there (.there (.there (.there (.there (.there (.there (.there (.there (.there (.there (.here _ _)))))))))))) | exact .there (.there (.there (.there (.there (.there (.there (.there (.there (.there (.there (.there (.there (.here _ _)))))))))))))) rfl, H.cell (b := G) (o := 3) (by first | exact .here _ _ | exact .there (.here _ _) | exact .there (.there (.here _ _)) | exact .there (.there (.there (.here _ _))) | exact .there (.there (.there (.there (.here _ _)))) | exact .there (.there (.there (.there (.there (.here _ _))))) | exact .there (.there (.there (.there (.there (.there (.here _ _)))))) | exact .there (.there (.there (.there (.there (.there (.there (.here _ _))))))) | exact .there (.there (.there (.there (.there (.there (.there (.there (.here _ _)))))))) | exact .there (.there (.there (.there (.there (.there (.there (.there (.there (.here _ _))))))))) | exact .there (.there (.there (.there (.there (.there (.there (.there (.there (.there (.here _ _)))))))))) | exact .there (.there (.there (.there (.there (.there (.there (.there (.there (.there (.there (.here _ _))))))))))) | exact .there (.there (.there (.there (.there (.there (.there (.there (.there (.there (.there (.there (.here _ _)))))))))))) | exact .there (.there (.there (.there (.there (.there (.there (.there (.there (.there (.there (.there (.there (.here _ _)))))))))))))) rfl, H.cell (b := G) (o := 4) (by first | exact .here _ _ | exact .there (.here _ _) | exact .there (.there (.here _ _)) | exact .there (.there (.there (.here _ _))) | exact .there (.there (.there (.there (.here _ _)))) | exact .there (.there (.there (.there (.there (.here _ _))))) | exact .there (.there (.there (.there (.there (.there (.here _ _)))))) | exact .there (.there (.there (.there (.there (.there (.there (.here _ _))))))) | exact .there (.there (.there (.there (.there (.there (.there (.there (.here _ _)))))))) | exact .there (.there (.there (.there (.there (.there (.there (.there (.there (.here _ _))))))))) | exact .there (.there (.there (.there (.there (.there (.there (.there (.there (.there (.here _ _)))))))))) | exact .there (.there (.there (.there (.there (.there (.there (.there (.there (.there (.there (.here _ _))))))))))) | exact .there (.there (.there (.there (.there (.there (.there (.there (.there (.there (.there (.there (.here _ _)))))))))))) | exact .there (.there (.there (.there (.there (.there (.there (.there (.there (.there (.there (.there (.there (.here _ _)))))))))))))) rfl⟩
    clear hK K
    ((try simp only [Act.put]); (try simp only [List.setIfInBounds_toArray]); (try simp only [List.set_cons_succ]); (try simp only [List.set_cons_zero]))
    refine takeL (i := 25) rfl (by kernel_rfl) (by kernel_rfl) (by kernel_rfl) (fun _ _ _ _ h => h) hHeld ?_ (Or.inl ⟨by rfl, ?_⟩) ?_
    rotate_left
    · intro W hW
      (try dsimp only at hW)
      first | (go_simp; done) | (go_simp; with_reducible rfl)
    ((try simp only [Act.put]); (try simp only [List.setIfInBounds_toArray]); (try simp only [List.set_cons_succ]); (try simp only [List.set_cons_zero]))
    refine takeL (i := 26) rfl (by kernel_rfl) (by kernel_rfl) (by kernel_rfl) (fun _ _ _ _ h => h) hHeld ?_ (Or.inl ⟨by rfl, ?_⟩) ?_
    rotate_left
    · intro W hW
      (try dsimp only at hW)
      first | (go_simp; done) | (go_simp; with_reducible rfl)
    ((try simp only [Act.put]); (try simp only [List.setIfInBounds_toArray]); (try simp only [List.set_cons_succ]); (try simp only [List.set_cons_zero]))
    refine wpAnyH_done (by kernel_rfl) ?_ _
    
    have hH := Lib.hid H
    clear H hHeld
    clear c0 c1 c2 c3 c4 c5 c6 c7 z0 z1 z2 z3 z4 z5 z6 z7 y1 y2 y3 y4 x0 x1 x2 x3 x4 x5 x6 x7 hw1 hw2 hw3 hz8
    have q2 := hH.out.cell (b := G) (o := 2) (.here _ _) rfl
    obtain hk | hk | hk : KI = 1 ∨ KI = 2 ∨ KI = 3 := by omega
    · have hkb : ((KI : Int) == 2) = false := by simp; omega
      have hkd : decide (2 ≤ KI) = false := by simp; omega
      have hkl : ¬ 2 ≤ KI := by omega
      have hE : Hid (lnB (nameK (KI : Int)) [FR, DS, NN, BY] = S0) := Lib.hid (by rw [hgo.out, hline.out, hk]; rfl)
      clear hgo hline hk hK1 hK3
      go_wp2_with fail
      go_ret
      exact ⟨by rw [← hE.out]; rfl, hH.out.tail⟩
    · have hkb : ((KI : Int) == 2) = true := by simp; omega
      have hkd : decide (2 ≤ KI) = true := by simp; omega
      have hkl : 2 ≤ KI := by omega
      have hE : Hid (lnB (nameK (KI : Int)) [FR, DS, NN, BY, SQ, AK, MS, dl] = S0) := Lib.hid (by rw [hgo.out, hline.out, hk]; rfl)
      clear hgo hline hk hK1 hK3
      have c0 := lnB_sp (nameK (KI : Int)) [FR, DS, NN, BY]
      have c1 := lnC_dec (nameK (KI : Int)) [FR, DS, NN, BY] SQ
      simp only [List.nil_append, List.cons_append] at c1
      have z0 := lnB_len (KI : Int) [FR, DS, NN, BY] (by simp; exact ⟨hF64.out, hD64.out, hN64.out, hB64.out⟩) (by simp)
      have z1 := lnC_len (KI : Int) [FR, DS, NN, BY] (by simp; exact ⟨hF64.out, hD64.out, hN64.out, hB64.out⟩) (by simp)
      have y0 := decS_len SQ hS64.out
      have x0 : ¬ 9223372036854775807 < (lnB (nameK (KI : Int)) [FR, DS, NN, BY]).size + 1 := by omega
      have x1 : ¬ 9223372036854775807 < (lnC (nameK (KI : Int)) [FR, DS, NN, BY]).size + (decS SQ).size := by omega
      have q5 := hH.out.cell (b := G) (o := 5) (.here _ _) rfl
      have hc := Lib.hid (digits_c SQ hS64.out hH.out)
      go_wp2_with fail
      refine hc.out.mono ?_
      rintro e wa ⟨rfl, Ha⟩
      clear hc hH q2 q5
      have hH := Lib.hid Ha
      clear Ha
      have q2 := hH.out.cell (b := G) (o := 2) (.here _ _) rfl
      have c2 := lnB_sp (nameK (KI : Int)) [FR, DS, NN, BY, SQ]
      have c3 := lnC_dec (nameK (KI : Int)) [FR, DS, NN, BY, SQ] AK
      simp only [List.nil_append, List.cons_append] at c3
      have z2 := lnB_len (KI : Int) [FR, DS, NN, BY, SQ] (by simp; exact ⟨hF64.out, hD64.out, hN64.out, hB64.out, hS64.out⟩) (by simp)
      have z3 := lnC_len (KI : Int) [FR, DS, NN, BY, SQ] (by simp; exact ⟨hF64.out, hD64.out, hN64.out, hB64.out, hS64.out⟩) (by simp)
      have y1 := decS_len AK hA64.out
      have x2 : ¬ 9223372036854775807 < (lnB (nameK (KI : Int)) [FR, DS, NN, BY, SQ]).size + 1 := by omega
      have x3 : ¬ 9223372036854775807 < (lnC (nameK (KI : Int)) [FR, DS, NN, BY, SQ]).size + (decS AK).size := by omega
      have c4 := lnB_sp (nameK (KI : Int)) [FR, DS, NN, BY, SQ, AK]
      have c5 := lnC_dec (nameK (KI : Int)) [FR, DS, NN, BY, SQ, AK] MS
      simp only [List.nil_append, List.cons_append] at c5
      have z4 := lnB_len (KI : Int) [FR, DS, NN, BY, SQ, AK] (by simp; exact ⟨hF64.out, hD64.out, hN64.out, hB64.out, hS64.out, hA64.out⟩) (by simp)
      have z5 := lnC_len (KI : Int) [FR, DS, NN, BY, SQ, AK] (by simp; exact ⟨hF64.out, hD64.out, hN64.out, hB64.out, hS64.out, hA64.out⟩) (by simp)
      have y2 := decS_len MS hM64.out
      have x4 : ¬ 9223372036854775807 < (lnB (nameK (KI : Int)) [FR, DS, NN, BY, SQ, AK]).size + 1 := by omega
      have x5 : ¬ 9223372036854775807 < (lnC (nameK (KI : Int)) [FR, DS, NN, BY, SQ, AK]).size + (decS MS).size := by omega
      go_wp2_with fail
      clear q2
      refine wp_region_held_drew (S := (fun W => W.cell? ⟨G, 6, none⟩ = some (.int .u64 (AK : Int)) ∧ W.cell? ⟨G, 7, none⟩ = some (.int .u64 (MS : Int)))) (by kernel_rfl) ?_ (fun hHeld => ?_)
      · have H := hH.out.drew
        exact ⟨H.cell (b := G) (o := 6) (by first | exact .here _ _ | exact .there (.here _ _) | exact .there (.there (.here _ _)) | exact .there (.there (.there (.here _ _))) | exact .there (.there (.there (.there (.here _ _)))) | exact .there (.there (.there (.there (.there (.here _ _))))) | exact .there (.there (.there (.there (.there (.there (.here _ _)))))) | exact .there (.there (.there (.there (.there (.there (.there (.here _ _))))))) | exact .there (.there (.there (.there (.there (.there (.there (.there (.here _ _)))))))) | exact .there (.there (.there (.there (.there (.there (.there (.there (.there (.here _ _))))))))) | exact .there (.there (.there (.there (.there (.there (.there (.there (.there (.there (.here _ _)))))))))) | exact .there (.there (.there (.there (.there (.there (.there (.there (.there (.there (.there (.here _ _))))))))))) | exact .there (.there (.there (.there (.there (.there (.there (.there (.there (.there (.there (.there (.here _ _)))))))))))) | exact .there (.there (.there (.there (.there (.there (.there (.there (.there (.there (.there (.there (.there (.here _ _)))))))))))))) rfl, H.cell (b := G) (o := 7) (by first | exact .here _ _ | exact .there (.here _ _) | exact .there (.there (.here _ _)) | exact .there (.there (.there (.here _ _))) | exact .there (.there (.there (.there (.here _ _)))) | exact .there (.there (.there (.there (.there (.here _ _))))) | exact .there (.there (.there (.there (.there (.there (.here _ _)))))) | exact .there (.there (.there (.there (.there (.there (.there (.here _ _))))))) | exact .there (.there (.there (.there (.there (.there (.there (.there (.here _ _)))))))) | exact .there (.there (.there (.there (.there (.there (.there (.there (.there (.here _ _))))))))) | exact .there (.there (.there (.there (.there (.there (.there (.there (.there (.there (.here _ _)))))))))) | exact .there (.there (.there (.there (.there (.there (.there (.there (.there (.there (.there (.here _ _))))))))))) | exact .there (.there (.there (.there (.there (.there (.there (.there (.there (.there (.there (.there (.here _ _)))))))))))) | exact .there (.there (.there (.there (.there (.there (.there (.there (.there (.there (.there (.there (.there (.here _ _)))))))))))))) rfl⟩
      have H := hH.out.drew
      generalize World.drew wa = wb at *
      clear hH
      refine takeL (i := 0) rfl (by kernel_rfl) (by kernel_rfl) (by kernel_rfl) (fun _ _ _ _ h => h) hHeld ?_ (Or.inl ⟨by rfl, ?_⟩) ?_
      rotate_left
      · intro W hW
        (try dsimp only at hW)
        first | (go_simp; done) | (go_simp; with_reducible rfl)
      ((try simp only [Act.put]); (try simp only [List.setIfInBounds_toArray]); (try simp only [List.set_cons_succ]); (try simp only [List.set_cons_zero]))
      refine takeL (i := 1) rfl (by kernel_rfl) (by kernel_rfl) (by kernel_rfl) (fun _ _ _ _ h => h) hHeld ?_ (Or.inl ⟨by rfl, ?_⟩) ?_
      rotate_left
      · intro W hW
        (try dsimp only at hW)
        first | (go_simp; done) | (go_simp; with_reducible rfl)
      ((try simp only [Act.put]); (try simp only [List.setIfInBounds_toArray]); (try simp only [List.set_cons_succ]); (try simp only [List.set_cons_zero]))
      refine takeL (i := 2) rfl (by kernel_rfl) (by kernel_rfl) (by kernel_rfl) (fun _ _ _ _ h => h) hHeld ?_ (Or.inl ⟨by rfl, ?_⟩) ?_
      rotate_left
      · intro W hW
        (try dsimp only at hW)
        first | (go_simp; done) | (go_simp; with_reducible rfl)
      ((try simp only [Act.put]); (try simp only [List.setIfInBounds_toArray]); (try simp only [List.set_cons_succ]); (try simp only [List.set_cons_zero]))
      refine takeL (i := 3) rfl (by kernel_rfl) (by kernel_rfl) (by kernel_rfl) (fun _ _ _ _ h => h) hHeld ?_ (Or.inl ⟨by rfl, ?_⟩) ?_
      rotate_left
      · intro W hW
        (try dsimp only at hW)
        first | (go_simp; done) | (go_simp; with_reducible rfl)
      ((try simp only [Act.put]); (try simp only [List.setIfInBounds_toArray]); (try simp only [List.set_cons_succ]); (try simp only [List.set_cons_zero]))
      refine takeL (i := 7) rfl (by kernel_rfl) (by kernel_rfl) (by kernel_rfl) (fun _ _ _ _ h => h) hHeld ?_ (Or.inl ⟨by rfl, ?_⟩) ?_
      rotate_left
      · intro W hW
        (try dsimp only at hW)
        first | (go_simp; done) | (go_simp; with_reducible rfl)
      ((try simp only [Act.put]); (try simp only [List.setIfInBounds_toArray]); (try simp only [List.set_cons_succ]); (try simp only [List.set_cons_zero]))
      refine takeL (i := 8) rfl (by kernel_rfl) (by kernel_rfl) (by kernel_rfl) (fun _ _ _ _ h => h) hHeld ?_ (Or.inl ⟨by rfl, ?_⟩) ?_
      rotate_left
      · intro W hW
        (try dsimp only at hW)
        first | (go_simp; done) | (go_simp; with_reducible rfl)
      ((try simp only [Act.put]); (try simp only [List.setIfInBounds_toArray]); (try simp only [List.set_cons_succ]); (try simp only [List.set_cons_zero]))
      refine callL (i := 4) rfl (by kernel_rfl) (fun K hK => ?_)
      rw [if_pos (by rfl)]
      go_simp
      refine (digits_c AK hA64.out H).mono ?_
      rintro e wc ⟨rfl, H4⟩
      have H' := H4
      clear H hHeld
      clear H4
      have H := H'
      clear H'
      refine hK.out _ _ ?_ (fun hHeld => ?_)
      · exact ⟨H.cell (b := G) (o := 6) (by first | exact .here _ _ | exact .there (.here _ _) | exact .there (.there (.here _ _)) | exact .there (.there (.there (.here _ _))) | exact .there (.there (.there (.there (.here _ _)))) | exact .there (.there (.there (.there (.there (.here _ _))))) | exact .there (.there (.there (.there (.there (.there (.here _ _)))))) | exact .there (.there (.there (.there (.there (.there (.there (.here _ _))))))) | exact .there (.there (.there (.there (.there (.there (.there (.there (.here _ _)))))))) | exact .there (.there (.there (.there (.there (.there (.there (.there (.there (.here _ _))))))))) | exact .there (.there (.there (.there (.there (.there (.there (.there (.there (.there (.here _ _)))))))))) | exact .there (.there (.there (.there (.there (.there (.there (.there (.there (.there (.there (.here _ _))))))))))) | exact .there (.there (.there (.there (.there (.there (.there (.there (.there (.there (.there (.there (.here _ _)))))))))))) | exact .there (.there (.there (.there (.there (.there (.there (.there (.there (.there (.there (.there (.there (.here _ _)))))))))))))) rfl, H.cell (b := G) (o := 7) (by first | exact .here _ _ | exact .there (.here _ _) | exact .there (.there (.here _ _)) | exact .there (.there (.there (.here _ _))) | exact .there (.there (.there (.there (.here _ _)))) | exact .there (.there (.there (.there (.there (.here _ _))))) | exact .there (.there (.there (.there (.there (.there (.here _ _)))))) | exact .there (.there (.there (.there (.there (.there (.there (.here _ _))))))) | exact .there (.there (.there (.there (.there (.there (.there (.there (.here _ _)))))))) | exact .there (.there (.there (.there (.there (.there (.there (.there (.there (.here _ _))))))))) | exact .there (.there (.there (.there (.there (.there (.there (.there (.there (.there (.here _ _)))))))))) | exact .there (.there (.there (.there (.there (.there (.there (.there (.there (.there (.there (.here _ _))))))))))) | exact .there (.there (.there (.there (.there (.there (.there (.there (.there (.there (.there (.there (.here _ _)))))))))))) | exact .there (.there (.there (.there (.there (.there (.there (.there (.there (.there (.there (.there (.there (.here _ _)))))))))))))) rfl⟩
      clear hK K
      ((try simp only [Act.put]); (try simp only [List.setIfInBounds_toArray]); (try simp only [List.set_cons_succ]); (try simp only [List.set_cons_zero]))
      refine takeL (i := 5) rfl (by kernel_rfl) (by kernel_rfl) (by kernel_rfl) (fun _ _ _ _ h => h) hHeld ?_ (Or.inl ⟨by rfl, ?_⟩) ?_
      rotate_left
      · intro W hW
        (try dsimp only at hW)
        first | (go_simp; done) | (go_simp; with_reducible rfl)
      ((try simp only [Act.put]); (try simp only [List.setIfInBounds_toArray]); (try simp only [List.set_cons_succ]); (try simp only [List.set_cons_zero]))
      refine takeL (i := 6) rfl (by kernel_rfl) (by kernel_rfl) (by kernel_rfl) (fun _ _ _ _ h => h) hHeld ?_ (Or.inl ⟨by rfl, ?_⟩) ?_
      rotate_left
      · intro W hW
        (try dsimp only at hW)
        first | (go_simp; done) | (go_simp; with_reducible rfl)
      ((try simp only [Act.put]); (try simp only [List.setIfInBounds_toArray]); (try simp only [List.set_cons_succ]); (try simp only [List.set_cons_zero]))
      refine callL (i := 9) rfl (by kernel_rfl) (fun K hK => ?_)
      rw [if_pos (by rfl)]
      go_simp
      refine (digits_c MS hM64.out H).mono ?_
      rintro e wd ⟨rfl, H9⟩
      have H' := H9
      clear H hHeld
      clear H9
      have H := H'
      clear H'
      refine hK.out _ _ ?_ (fun hHeld => ?_)
      · exact ⟨H.cell (b := G) (o := 6) (by first | exact .here _ _ | exact .there (.here _ _) | exact .there (.there (.here _ _)) | exact .there (.there (.there (.here _ _))) | exact .there (.there (.there (.there (.here _ _)))) | exact .there (.there (.there (.there (.there (.here _ _))))) | exact .there (.there (.there (.there (.there (.there (.here _ _)))))) | exact .there (.there (.there (.there (.there (.there (.there (.here _ _))))))) | exact .there (.there (.there (.there (.there (.there (.there (.there (.here _ _)))))))) | exact .there (.there (.there (.there (.there (.there (.there (.there (.there (.here _ _))))))))) | exact .there (.there (.there (.there (.there (.there (.there (.there (.there (.there (.here _ _)))))))))) | exact .there (.there (.there (.there (.there (.there (.there (.there (.there (.there (.there (.here _ _))))))))))) | exact .there (.there (.there (.there (.there (.there (.there (.there (.there (.there (.there (.there (.here _ _)))))))))))) | exact .there (.there (.there (.there (.there (.there (.there (.there (.there (.there (.there (.there (.there (.here _ _)))))))))))))) rfl, H.cell (b := G) (o := 7) (by first | exact .here _ _ | exact .there (.here _ _) | exact .there (.there (.here _ _)) | exact .there (.there (.there (.here _ _))) | exact .there (.there (.there (.there (.here _ _)))) | exact .there (.there (.there (.there (.there (.here _ _))))) | exact .there (.there (.there (.there (.there (.there (.here _ _)))))) | exact .there (.there (.there (.there (.there (.there (.there (.here _ _))))))) | exact .there (.there (.there (.there (.there (.there (.there (.there (.here _ _)))))))) | exact .there (.there (.there (.there (.there (.there (.there (.there (.there (.here _ _))))))))) | exact .there (.there (.there (.there (.there (.there (.there (.there (.there (.there (.here _ _)))))))))) | exact .there (.there (.there (.there (.there (.there (.there (.there (.there (.there (.there (.here _ _))))))))))) | exact .there (.there (.there (.there (.there (.there (.there (.there (.there (.there (.there (.there (.here _ _)))))))))))) | exact .there (.there (.there (.there (.there (.there (.there (.there (.there (.there (.there (.there (.there (.here _ _)))))))))))))) rfl⟩
      clear hK K
      ((try simp only [Act.put]); (try simp only [List.setIfInBounds_toArray]); (try simp only [List.set_cons_succ]); (try simp only [List.set_cons_zero]))
      refine takeL (i := 10) rfl (by kernel_rfl) (by kernel_rfl) (by kernel_rfl) (fun _ _ _ _ h => h) hHeld ?_ (Or.inl ⟨by rfl, ?_⟩) ?_
      rotate_left
      · intro W hW
        (try dsimp only at hW)
        first | (go_simp; done) | (go_simp; with_reducible rfl)
      ((try simp only [Act.put]); (try simp only [List.setIfInBounds_toArray]); (try simp only [List.set_cons_succ]); (try simp only [List.set_cons_zero]))
      refine takeL (i := 11) rfl (by kernel_rfl) (by kernel_rfl) (by kernel_rfl) (fun _ _ _ _ h => h) hHeld ?_ (Or.inl ⟨by rfl, ?_⟩) ?_
      rotate_left
      · intro W hW
        (try dsimp only at hW)
        first | (go_simp; done) | (go_simp; with_reducible rfl)
      ((try simp only [Act.put]); (try simp only [List.setIfInBounds_toArray]); (try simp only [List.set_cons_succ]); (try simp only [List.set_cons_zero]))
      refine wpAnyH_done (by kernel_rfl) ?_ _
      
      have hH := Lib.hid H
      clear H hHeld
      have q2 := hH.out.cell (b := G) (o := 2) (.here _ _) rfl
      have c8 := lnB_sp (nameK (KI : Int)) [FR, DS, NN, BY, SQ, AK, MS]
      have c9 := lnC_dec (nameK (KI : Int)) [FR, DS, NN, BY, SQ, AK, MS] dl
      simp only [List.nil_append, List.cons_append] at c9
      have z8 := lnB_len (KI : Int) [FR, DS, NN, BY, SQ, AK, MS] (by simp; exact ⟨hF64.out, hD64.out, hN64.out, hB64.out, hS64.out, hA64.out, hM64.out⟩) (by simp)
      have z9 := lnC_len (KI : Int) [FR, DS, NN, BY, SQ, AK, MS] (by simp; exact ⟨hF64.out, hD64.out, hN64.out, hB64.out, hS64.out, hA64.out, hM64.out⟩) (by simp)
      have y4 := decS_len dl hd64.out
      have x8 : ¬ 9223372036854775807 < (lnB (nameK (KI : Int)) [FR, DS, NN, BY, SQ, AK, MS]).size + 1 := by omega
      have x9 : ¬ 9223372036854775807 < (lnC (nameK (KI : Int)) [FR, DS, NN, BY, SQ, AK, MS]).size + (decS dl).size := by omega
      have q8 := hH.out.cell (b := G) (o := 8) (.here _ _) rfl
      have hwd : IntKind.u64.wrap (dl : Int) = (dl : Int) := by unfold IntKind.wrap; simp [IntKind.bits, IntKind.signed]; omega
      have hc := Lib.hid (digits_c dl hd64.out hH.out)
      go_wp2_with fail
      refine hc.out.mono ?_
      rintro e we ⟨rfl, He⟩
      clear hc hH q2 q8
      have hH := Lib.hid He
      clear He
      go_wp2_with fail
      go_ret
      exact ⟨by rw [← hE.out]; rfl, hH.out.tail⟩
    · have hkb : ((KI : Int) == 2) = false := by simp; omega
      have hkd : decide (2 ≤ KI) = true := by simp; omega
      have hkl : 2 ≤ KI := by omega
      have hE : Hid (lnB (nameK (KI : Int)) [FR, DS, NN, BY, AK, MS] = S0) := Lib.hid (by rw [hgo.out, hline.out, hk]; rfl)
      clear hgo hline hk hK1 hK3
      have c2 := lnB_sp (nameK (KI : Int)) [FR, DS, NN, BY]
      have c3 := lnC_dec (nameK (KI : Int)) [FR, DS, NN, BY] AK
      simp only [List.nil_append, List.cons_append] at c3
      have z2 := lnB_len (KI : Int) [FR, DS, NN, BY] (by simp; exact ⟨hF64.out, hD64.out, hN64.out, hB64.out⟩) (by simp)
      have z3 := lnC_len (KI : Int) [FR, DS, NN, BY] (by simp; exact ⟨hF64.out, hD64.out, hN64.out, hB64.out⟩) (by simp)
      have y1 := decS_len AK hA64.out
      have x2 : ¬ 9223372036854775807 < (lnB (nameK (KI : Int)) [FR, DS, NN, BY]).size + 1 := by omega
      have x3 : ¬ 9223372036854775807 < (lnC (nameK (KI : Int)) [FR, DS, NN, BY]).size + (decS AK).size := by omega
      have c4 := lnB_sp (nameK (KI : Int)) [FR, DS, NN, BY, AK]
      have c5 := lnC_dec (nameK (KI : Int)) [FR, DS, NN, BY, AK] MS
      simp only [List.nil_append, List.cons_append] at c5
      have z4 := lnB_len (KI : Int) [FR, DS, NN, BY, AK] (by simp; exact ⟨hF64.out, hD64.out, hN64.out, hB64.out, hA64.out⟩) (by simp)
      have z5 := lnC_len (KI : Int) [FR, DS, NN, BY, AK] (by simp; exact ⟨hF64.out, hD64.out, hN64.out, hB64.out, hA64.out⟩) (by simp)
      have y2 := decS_len MS hM64.out
      have x4 : ¬ 9223372036854775807 < (lnB (nameK (KI : Int)) [FR, DS, NN, BY, AK]).size + 1 := by omega
      have x5 : ¬ 9223372036854775807 < (lnC (nameK (KI : Int)) [FR, DS, NN, BY, AK]).size + (decS MS).size := by omega
      go_wp2_with fail
      clear q2
      refine wp_region_held_drew (S := (fun W => W.cell? ⟨G, 6, none⟩ = some (.int .u64 (AK : Int)) ∧ W.cell? ⟨G, 7, none⟩ = some (.int .u64 (MS : Int)))) (by kernel_rfl) ?_ (fun hHeld => ?_)
      · have H := hH.out.drew
        exact ⟨H.cell (b := G) (o := 6) (by first | exact .here _ _ | exact .there (.here _ _) | exact .there (.there (.here _ _)) | exact .there (.there (.there (.here _ _))) | exact .there (.there (.there (.there (.here _ _)))) | exact .there (.there (.there (.there (.there (.here _ _))))) | exact .there (.there (.there (.there (.there (.there (.here _ _)))))) | exact .there (.there (.there (.there (.there (.there (.there (.here _ _))))))) | exact .there (.there (.there (.there (.there (.there (.there (.there (.here _ _)))))))) | exact .there (.there (.there (.there (.there (.there (.there (.there (.there (.here _ _))))))))) | exact .there (.there (.there (.there (.there (.there (.there (.there (.there (.there (.here _ _)))))))))) | exact .there (.there (.there (.there (.there (.there (.there (.there (.there (.there (.there (.here _ _))))))))))) | exact .there (.there (.there (.there (.there (.there (.there (.there (.there (.there (.there (.there (.here _ _)))))))))))) | exact .there (.there (.there (.there (.there (.there (.there (.there (.there (.there (.there (.there (.there (.here _ _)))))))))))))) rfl, H.cell (b := G) (o := 7) (by first | exact .here _ _ | exact .there (.here _ _) | exact .there (.there (.here _ _)) | exact .there (.there (.there (.here _ _))) | exact .there (.there (.there (.there (.here _ _)))) | exact .there (.there (.there (.there (.there (.here _ _))))) | exact .there (.there (.there (.there (.there (.there (.here _ _)))))) | exact .there (.there (.there (.there (.there (.there (.there (.here _ _))))))) | exact .there (.there (.there (.there (.there (.there (.there (.there (.here _ _)))))))) | exact .there (.there (.there (.there (.there (.there (.there (.there (.there (.here _ _))))))))) | exact .there (.there (.there (.there (.there (.there (.there (.there (.there (.there (.here _ _)))))))))) | exact .there (.there (.there (.there (.there (.there (.there (.there (.there (.there (.there (.here _ _))))))))))) | exact .there (.there (.there (.there (.there (.there (.there (.there (.there (.there (.there (.there (.here _ _)))))))))))) | exact .there (.there (.there (.there (.there (.there (.there (.there (.there (.there (.there (.there (.there (.here _ _)))))))))))))) rfl⟩
      have H := hH.out.drew
      generalize World.drew w8 = wb at *
      clear hH
      refine takeL (i := 0) rfl (by kernel_rfl) (by kernel_rfl) (by kernel_rfl) (fun _ _ _ _ h => h) hHeld ?_ (Or.inl ⟨by rfl, ?_⟩) ?_
      rotate_left
      · intro W hW
        (try dsimp only at hW)
        first | (go_simp; done) | (go_simp; with_reducible rfl)
      ((try simp only [Act.put]); (try simp only [List.setIfInBounds_toArray]); (try simp only [List.set_cons_succ]); (try simp only [List.set_cons_zero]))
      refine takeL (i := 1) rfl (by kernel_rfl) (by kernel_rfl) (by kernel_rfl) (fun _ _ _ _ h => h) hHeld ?_ (Or.inl ⟨by rfl, ?_⟩) ?_
      rotate_left
      · intro W hW
        (try dsimp only at hW)
        first | (go_simp; done) | (go_simp; with_reducible rfl)
      ((try simp only [Act.put]); (try simp only [List.setIfInBounds_toArray]); (try simp only [List.set_cons_succ]); (try simp only [List.set_cons_zero]))
      refine takeL (i := 2) rfl (by kernel_rfl) (by kernel_rfl) (by kernel_rfl) (fun _ _ _ _ h => h) hHeld ?_ (Or.inl ⟨by rfl, ?_⟩) ?_
      rotate_left
      · intro W hW
        (try dsimp only at hW)
        first | (go_simp; done) | (go_simp; with_reducible rfl)
      ((try simp only [Act.put]); (try simp only [List.setIfInBounds_toArray]); (try simp only [List.set_cons_succ]); (try simp only [List.set_cons_zero]))
      refine takeL (i := 3) rfl (by kernel_rfl) (by kernel_rfl) (by kernel_rfl) (fun _ _ _ _ h => h) hHeld ?_ (Or.inl ⟨by rfl, ?_⟩) ?_
      rotate_left
      · intro W hW
        (try dsimp only at hW)
        first | (go_simp; done) | (go_simp; with_reducible rfl)
      ((try simp only [Act.put]); (try simp only [List.setIfInBounds_toArray]); (try simp only [List.set_cons_succ]); (try simp only [List.set_cons_zero]))
      refine takeL (i := 7) rfl (by kernel_rfl) (by kernel_rfl) (by kernel_rfl) (fun _ _ _ _ h => h) hHeld ?_ (Or.inl ⟨by rfl, ?_⟩) ?_
      rotate_left
      · intro W hW
        (try dsimp only at hW)
        first | (go_simp; done) | (go_simp; with_reducible rfl)
      ((try simp only [Act.put]); (try simp only [List.setIfInBounds_toArray]); (try simp only [List.set_cons_succ]); (try simp only [List.set_cons_zero]))
      refine takeL (i := 8) rfl (by kernel_rfl) (by kernel_rfl) (by kernel_rfl) (fun _ _ _ _ h => h) hHeld ?_ (Or.inl ⟨by rfl, ?_⟩) ?_
      rotate_left
      · intro W hW
        (try dsimp only at hW)
        first | (go_simp; done) | (go_simp; with_reducible rfl)
      ((try simp only [Act.put]); (try simp only [List.setIfInBounds_toArray]); (try simp only [List.set_cons_succ]); (try simp only [List.set_cons_zero]))
      refine callL (i := 4) rfl (by kernel_rfl) (fun K hK => ?_)
      rw [if_pos (by rfl)]
      go_simp
      refine (digits_c AK hA64.out H).mono ?_
      rintro e wc ⟨rfl, H4⟩
      have H' := H4
      clear H hHeld
      clear H4
      have H := H'
      clear H'
      refine hK.out _ _ ?_ (fun hHeld => ?_)
      · exact ⟨H.cell (b := G) (o := 6) (by first | exact .here _ _ | exact .there (.here _ _) | exact .there (.there (.here _ _)) | exact .there (.there (.there (.here _ _))) | exact .there (.there (.there (.there (.here _ _)))) | exact .there (.there (.there (.there (.there (.here _ _))))) | exact .there (.there (.there (.there (.there (.there (.here _ _)))))) | exact .there (.there (.there (.there (.there (.there (.there (.here _ _))))))) | exact .there (.there (.there (.there (.there (.there (.there (.there (.here _ _)))))))) | exact .there (.there (.there (.there (.there (.there (.there (.there (.there (.here _ _))))))))) | exact .there (.there (.there (.there (.there (.there (.there (.there (.there (.there (.here _ _)))))))))) | exact .there (.there (.there (.there (.there (.there (.there (.there (.there (.there (.there (.here _ _))))))))))) | exact .there (.there (.there (.there (.there (.there (.there (.there (.there (.there (.there (.there (.here _ _)))))))))))) | exact .there (.there (.there (.there (.there (.there (.there (.there (.there (.there (.there (.there (.there (.here _ _)))))))))))))) rfl, H.cell (b := G) (o := 7) (by first | exact .here _ _ | exact .there (.here _ _) | exact .there (.there (.here _ _)) | exact .there (.there (.there (.here _ _))) | exact .there (.there (.there (.there (.here _ _)))) | exact .there (.there (.there (.there (.there (.here _ _))))) | exact .there (.there (.there (.there (.there (.there (.here _ _)))))) | exact .there (.there (.there (.there (.there (.there (.there (.here _ _))))))) | exact .there (.there (.there (.there (.there (.there (.there (.there (.here _ _)))))))) | exact .there (.there (.there (.there (.there (.there (.there (.there (.there (.here _ _))))))))) | exact .there (.there (.there (.there (.there (.there (.there (.there (.there (.there (.here _ _)))))))))) | exact .there (.there (.there (.there (.there (.there (.there (.there (.there (.there (.there (.here _ _))))))))))) | exact .there (.there (.there (.there (.there (.there (.there (.there (.there (.there (.there (.there (.here _ _)))))))))))) | exact .there (.there (.there (.there (.there (.there (.there (.there (.there (.there (.there (.there (.there (.here _ _)))))))))))))) rfl⟩
      clear hK K
      ((try simp only [Act.put]); (try simp only [List.setIfInBounds_toArray]); (try simp only [List.set_cons_succ]); (try simp only [List.set_cons_zero]))
      refine takeL (i := 5) rfl (by kernel_rfl) (by kernel_rfl) (by kernel_rfl) (fun _ _ _ _ h => h) hHeld ?_ (Or.inl ⟨by rfl, ?_⟩) ?_
      rotate_left
      · intro W hW
        (try dsimp only at hW)
        first | (go_simp; done) | (go_simp; with_reducible rfl)
      ((try simp only [Act.put]); (try simp only [List.setIfInBounds_toArray]); (try simp only [List.set_cons_succ]); (try simp only [List.set_cons_zero]))
      refine takeL (i := 6) rfl (by kernel_rfl) (by kernel_rfl) (by kernel_rfl) (fun _ _ _ _ h => h) hHeld ?_ (Or.inl ⟨by rfl, ?_⟩) ?_
      rotate_left
      · intro W hW
        (try dsimp only at hW)
        first | (go_simp; done) | (go_simp; with_reducible rfl)
      ((try simp only [Act.put]); (try simp only [List.setIfInBounds_toArray]); (try simp only [List.set_cons_succ]); (try simp only [List.set_cons_zero]))
      refine callL (i := 9) rfl (by kernel_rfl) (fun K hK => ?_)
      rw [if_pos (by rfl)]
      go_simp
      refine (digits_c MS hM64.out H).mono ?_
      rintro e wd ⟨rfl, H9⟩
      have H' := H9
      clear H hHeld
      clear H9
      have H := H'
      clear H'
      refine hK.out _ _ ?_ (fun hHeld => ?_)
      · exact ⟨H.cell (b := G) (o := 6) (by first | exact .here _ _ | exact .there (.here _ _) | exact .there (.there (.here _ _)) | exact .there (.there (.there (.here _ _))) | exact .there (.there (.there (.there (.here _ _)))) | exact .there (.there (.there (.there (.there (.here _ _))))) | exact .there (.there (.there (.there (.there (.there (.here _ _)))))) | exact .there (.there (.there (.there (.there (.there (.there (.here _ _))))))) | exact .there (.there (.there (.there (.there (.there (.there (.there (.here _ _)))))))) | exact .there (.there (.there (.there (.there (.there (.there (.there (.there (.here _ _))))))))) | exact .there (.there (.there (.there (.there (.there (.there (.there (.there (.there (.here _ _)))))))))) | exact .there (.there (.there (.there (.there (.there (.there (.there (.there (.there (.there (.here _ _))))))))))) | exact .there (.there (.there (.there (.there (.there (.there (.there (.there (.there (.there (.there (.here _ _)))))))))))) | exact .there (.there (.there (.there (.there (.there (.there (.there (.there (.there (.there (.there (.there (.here _ _)))))))))))))) rfl, H.cell (b := G) (o := 7) (by first | exact .here _ _ | exact .there (.here _ _) | exact .there (.there (.here _ _)) | exact .there (.there (.there (.here _ _))) | exact .there (.there (.there (.there (.here _ _)))) | exact .there (.there (.there (.there (.there (.here _ _))))) | exact .there (.there (.there (.there (.there (.there (.here _ _)))))) | exact .there (.there (.there (.there (.there (.there (.there (.here _ _))))))) | exact .there (.there (.there (.there (.there (.there (.there (.there (.here _ _)))))))) | exact .there (.there (.there (.there (.there (.there (.there (.there (.there (.here _ _))))))))) | exact .there (.there (.there (.there (.there (.there (.there (.there (.there (.there (.here _ _)))))))))) | exact .there (.there (.there (.there (.there (.there (.there (.there (.there (.there (.there (.here _ _))))))))))) | exact .there (.there (.there (.there (.there (.there (.there (.there (.there (.there (.there (.there (.here _ _)))))))))))) | exact .there (.there (.there (.there (.there (.there (.there (.there (.there (.there (.there (.there (.there (.here _ _)))))))))))))) rfl⟩
      clear hK K
      ((try simp only [Act.put]); (try simp only [List.setIfInBounds_toArray]); (try simp only [List.set_cons_succ]); (try simp only [List.set_cons_zero]))
      refine takeL (i := 10) rfl (by kernel_rfl) (by kernel_rfl) (by kernel_rfl) (fun _ _ _ _ h => h) hHeld ?_ (Or.inl ⟨by rfl, ?_⟩) ?_
      rotate_left
      · intro W hW
        (try dsimp only at hW)
        first | (go_simp; done) | (go_simp; with_reducible rfl)
      ((try simp only [Act.put]); (try simp only [List.setIfInBounds_toArray]); (try simp only [List.set_cons_succ]); (try simp only [List.set_cons_zero]))
      refine takeL (i := 11) rfl (by kernel_rfl) (by kernel_rfl) (by kernel_rfl) (fun _ _ _ _ h => h) hHeld ?_ (Or.inl ⟨by rfl, ?_⟩) ?_
      rotate_left
      · intro W hW
        (try dsimp only at hW)
        first | (go_simp; done) | (go_simp; with_reducible rfl)
      ((try simp only [Act.put]); (try simp only [List.setIfInBounds_toArray]); (try simp only [List.set_cons_succ]); (try simp only [List.set_cons_zero]))
      refine wpAnyH_done (by kernel_rfl) ?_ _
      
      have hH := Lib.hid H
      clear H hHeld
      have q2 := hH.out.cell (b := G) (o := 2) (.here _ _) rfl
      go_wp2_with fail
      go_ret
      exact ⟨by rw [← hE.out]; rfl, hH.out.tail⟩
  · have hk0 := Lib.hid (hchk.out _ _ hH.out false (decide_eq_false hm))
    have hE := Lib.hid (hbad.out hm)
    clear hm hbad hgood
    go_enter Tryd.func14, Tryd.ntmps14
    go_wp2_with fail
    refine hk0.out.mono ?_
    rintro e w2 ⟨rfl, H2⟩
    have hH2 := Lib.hid H2.tail
    clear hk0 H2
    go_wp2_with fail
    go_ret
    exact ⟨by rw [hE.out]; rfl, hH2.out⟩
end Go.Proofs.YtilpkfgdlehmpaaDoor

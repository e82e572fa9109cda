/- The walk of the law BarrierOrders: the law itself. -/
import Derived.Test.YtejgkehcplajhaaOrders
namespace Go.Proofs.Ytejgkehcplajhaa
open Go.RowKit
set_option linter.unusedVariables false

theorem stF_zero {ms : List Int} (h : ms ≠ []) (f : Int) : stF ms f (fun _ => false) = f := by unfold stF; rw [if_neg (missL_none h)]
theorem stP_zero {ms : List Int} (h : ms ≠ []) : stP ms (fun _ => false) = fun _ => false := by unfold stP; rw [if_neg (missL_none h)]

theorem has_missing {fr f' : Int} {ms : List Int} {ps : Int → Bool} {y : Int} (h : y ∈ missM f' 12 ms ps) : hasM fr f' ms ps y f' = false := by
  have hp : ps y = false := by
    unfold missM at h
    split at h
    · cases h
    · have := (List.mem_filter.1 h).2; simpa using this
  unfold hasM
  simp [hp]

set_option maxRecDepth 100000 in
set_option maxHeartbeats 8000000 in
theorem orders_c (set fr : Int) (a : Option Addr) (len cap : Nat) (zs : List Int) (w : World) (s0 : 0 ≤ set) (s1 : set ≤ 255) (f0 : 0 ≤ fr) (f1 : fr ≤ 255) (hlen : len ≤ 9223372036854775807)
    (hz : Rd w a len (fun i => .int .u8 (zs.getD i 0))) (hb : ∀ i, 0 ≤ zs.getD i 0 ∧ zs.getD i 0 ≤ 255) :
    Calls Try.prog 6 #[.int .u8 set, .int .u8 fr, .slice a len cap] w fun e w' => e = .returned (.bool true) ∧ Kp no w w' := by
  have hz' := Lib.hid hz
  have hb' := Lib.hid hb
  have hal := Lib.hid (alive_c w (SL.start w))
  have hmd := Lib.hid (fun (V : World) (L : List Pc) (H : SL V L) => made_c set fr s0 s1 f0 f1 V H)
  clear hz hb
  go_enter Try.func6, Try.ntmps6
  go_wp2_with fail
  refine hal.out.mono ?_
  rintro e w1 ⟨rfl, H⟩
  have hH := Lib.hid H
  clear hal H
  by_cases h1 : 60 < len
  · have hd : decide ((60 : Int) < (len : Int)) = true := by simp; omega
    go_wp2_with fail
    go_ret
    exact ⟨rfl, hH.out.kp (.here _ _)⟩
  · have hd : decide ((60 : Int) < (len : Int)) = false := by simp; omega
    have hl60 : len ≤ 60 := by omega
    clear h1
    have hm1 := Lib.hid (hmd.out _ _ hH.out)
    go_wp2_with fail
    refine hm1.out.mono ?_
    rintro e w2 ⟨p, m, a1, c1, al, cl, rfl, H⟩
    have hm2 := Lib.hid (hmd.out _ _ H)
    clear hm1 hH H
    go_wp2_with fail
    refine hm2.out.mono ?_
    rintro e w3 ⟨p2, m2, a2, c2, al2, cl2, rfl, H⟩
    have hfb : 0 ≤ fr % 12 ∧ fr % 12 < 12 := by omega
    obtain ⟨f, hf⟩ : ∃ f, fr % 12 = f := ⟨_, rfl⟩
    rw [hf] at H hfb
    obtain ⟨x, rfl, rfl, rfl, rfl, rfl, rfl, rfl, rfl, rfl, rfl, rfl, rfl, rfl⟩ : ∃ x : Oc, x.w = w ∧ x.set = set ∧ x.f = f ∧ x.p = p ∧ x.m = m ∧ x.a = a1 ∧ x.c = c1 ∧ x.p2 = p2 ∧ x.m2 = m2 ∧ x.a2 = a2 ∧ x.c2 = c2 ∧ x.al = al ∧ x.cl = cl :=
      ⟨⟨w, set, f, p, m, a1, c1, p2, m2, a2, c2, al, cl⟩, rfl, rfl, rfl, rfl, rfl, rfl, rfl, rfl, rfl, rfl, rfl, rfl, rfl⟩
    have H2 : SL w3 (TWO x (fun _ => false) (fun _ => false) []) := by
      unfold TWO
      rw [stF_zero (memb_ne x.set), stP_zero (memb_ne x.set)]
      exact H.re (.step (.there (.there (.there (.there (.here _ _))))) (.step (.there (.there (.there (.there (.here _ _))))) (.step (.there (.there (.there (.there (.here _ _))))) (.step (.there (.there (.there (.there (.here _ _))))) (.step (.here _ _) (.step (.here _ _) (.step (.here _ _) (.drop (.same _)))))))))
    clear hm2 hmd H hf
    obtain ⟨L, hL⟩ : ∃ L, (memb x.set).length = L := ⟨_, rfl⟩
    obtain ⟨l1, l2⟩ := memb_len x.set
    rw [hL] at l1 l2
    have hL' := Lib.hid hL
    rw [hL]
    have hF1 := Lib.hid (bFrame H2 (memb_ne x.set))
    have hf1 := hfb.1
    have hf2 := hfb.2
    rw [stF_zero (memb_ne x.set)] at hF1
    have hdf : decide (x.f < 12) = true := by simpa using hf2
    rw [hdf] at hF1
    obtain ⟨al, hal0⟩ : ∃ al, x.al = al := ⟨_, rfl⟩
    rw [hal0]
    have hal := Lib.hid hal0
    clear hL H2 hfb hal0
    go_wp2_with fail
    refine hF1.out.mono ?_
    rintro e w4 ⟨rfl, H⟩
    have H3 : SL w4 (TWO x (fun _ => false) (fun _ => false) []) := by
      have h := H
      unfold TWO
      rw [stF_zero (memb_ne x.set)]
      exact h
    clear hF1 H
    obtain ⟨h, hh⟩ : ∃ h : Nat → Int, h = fun i => (memb x.set).getD ((zs.getD i 0 % (L : Int)).toNat) 0 := ⟨_, rfl⟩
    obtain ⟨g, hg⟩ : ∃ g : Nat → Int, g = fun i => (memb x.set).getD ((zs.getD (len - 1 - i) 0 % (L : Int)).toNat) 0 := ⟨_, rfl⟩
    have hh' := Lib.hid hh
    have hg' := Lib.hid hg
    have at_ : Hid (∀ (i : Nat) (V : World), Kp no x.w V → RdI V al (memb x.set) → i < len → ∃ (b o : Nat) (z : Int) (j bm om : Nat), a = some ⟨b, o, none⟩ ∧ V.cell? ⟨b, o + i, none⟩ = some (.int .u8 z) ∧ 0 ≤ z ∧ z ≤ 255 ∧ z % (L : Int) = (j : Int) ∧ j < L ∧
        al = some ⟨bm, om, none⟩ ∧ V.cell? ⟨bm, om + j, none⟩ = some (.int .i64 ((memb x.set).getD ((zs.getD i 0 % (L : Int)).toNat) 0)) ∧ (memb x.set).getD ((zs.getD i 0 % (L : Int)).toNat) 0 ∈ memb x.set) := by
      refine Lib.hid fun i V kp hm hi => ?_
      obtain ⟨b, o, e1, e2⟩ := (hz'.out.no kp) i hi
      obtain ⟨z0, z1⟩ := hb'.out i
      have hm0 := Int.emod_nonneg (zs.getD i 0) (show (L : Int) ≠ 0 by omega)
      have hm1 := Int.emod_lt_of_pos (zs.getD i 0) (show (0 : Int) < (L : Int) by omega)
      obtain ⟨j, hj⟩ : ∃ j : Nat, zs.getD i 0 % (L : Int) = j := ⟨(zs.getD i 0 % (L : Int)).toNat, by omega⟩
      have hjL : j < (memb x.set).length := by rw [hL'.out]; omega
      obtain ⟨bm, om, e3, e4⟩ := hm j hjL
      refine ⟨b, o, zs.getD i 0, j, bm, om, e1, e2, z0, z1, hj, by omega, e3, ?_, ?_⟩
      · rw [hj]; exact e4
      · rw [hj, Int.toNat_natCast, List.getD_eq_getElem?_getD, List.getElem?_eq_getElem hjL]
        exact List.getElem_mem hjL
    clear hz' hb' hh hg f0 f1 s0 s1
    go_wp2_with fail
    go_loopw [53] (fun i V => ∃ k : Nat, k ≤ len ∧ i = .int .i64 k ∧ SL V (TWO x (setK h k) (setK g k) [])) (fun i _ => len - (intOf i).toNat)
    case atStart => exact ⟨0, by omega, rfl, by rw [setK_zero, setK_zero]; exact H3⟩
    case round =>
      clear H3
      obtain ⟨k, hk, rfl, H⟩ := hrel
      by_cases hkl : k < len
      · obtain ⟨b, o, z, j, bm, om, rfl, y1, y2, y3, y4, y5, rfl, y7, y8⟩ := at_.out k wr (two_kp H) (by rw [← hal.out]; exact two_mem H) hkl
        have hA := twoA H hf1 hf2 y8
        have ehk : (memb x.set).getD ((zs.getD k 0 % (L : Int)).toNat) 0 = h k := by rw [hh'.out]
        rw [ehk] at hA y7
        have hA' := Lib.hid hA
        have hs1 := Lib.hid (setK_succ h k)
        generalize h k = yk at *
        clear hA y8 ehk H
        go_wp2_with fail
        refine hA'.out.mono ?_
        rintro e V1 ⟨⟨b0, rfl⟩, H⟩
        rw [← hs1.out] at H
        clear hA' y1 y7
        obtain ⟨b, o, z', j', bm', om', q1, y2, y3', y4', y5', y6', y7, y8, y9⟩ := at_.out (len - 1 - k) V1 (two_kp H) (by rw [← hal.out]; exact two_mem H) (by omega)
        cases q1
        cases y7
        have hB := twoB H hf1 hf2 y9
        have ehk : (memb x.set).getD ((zs.getD (len - 1 - k) 0 % (L : Int)).toNat) 0 = g k := by rw [hg'.out]
        rw [ehk] at hB y8
        have hB' := Lib.hid hB
        have hs2 := Lib.hid (setK_succ g k)
        have hidx : (len : Int) - 1 - (k : Int) = ((len - 1 - k : Nat) : Int) := by omega
        have hidx2 : len - 1 - k < len := by omega
        generalize g k = yk2 at *
        generalize len - 1 - k = k2 at *
        clear hB y9 ehk H
        go_wp2_with fail
        refine hB'.out.mono ?_
        rintro e V2 ⟨⟨b1, rfl⟩, H⟩
        rw [← hs2.out] at H
        have hH := Lib.hid H
        clear hB' y2 y8 H hidx
        go_wp2_with fail
        go_roundw
        case rel => exact ⟨k + 1, by omega, by go_num, hH.out⟩
        case measure => (simp [intOf]; try omega)
      · obtain rfl : k = len := by omega
        have hH := Lib.hid H
        clear H
        go_wp2_with fail
        go_loopw [91] (fun i V => ∃ j : Nat, j ≤ k ∧ i = .int .i64 j ∧ SL V (TWO x (setK h k) (set2 g h k j) [])) (fun i _ => k - (intOf i).toNat)
        case atStart => exact ⟨0, by omega, rfl, by rw [set2_zero]; exact hH.out⟩
        case round =>
          clear hH
          obtain ⟨j, hj, rfl, H⟩ := hrel
          by_cases hjk : j < k
          · obtain ⟨b, o, z, j2, bm, om, rfl, y1, y2, y3, y4, y5, rfl, y7, y8⟩ := at_.out j wr (two_kp H) (by rw [← hal.out]; exact two_mem H) hjk
            have hB := twoB H hf1 hf2 y8
            have ehk : (memb x.set).getD ((zs.getD j 0 % (L : Int)).toNat) 0 = h j := by rw [hh'.out]
            rw [ehk] at hB y7
            have hB' := Lib.hid hB
            have hs2 := Lib.hid (set2_succ g h k j)
            generalize h j = yk at *
            clear hB y8 ehk H
            go_wp2_with fail
            refine hB'.out.mono ?_
            rintro e V1 ⟨⟨b0, rfl⟩, H⟩
            rw [← hs2.out] at H
            have hH := Lib.hid H
            clear hB' y1 y7 H
            go_wp2_with fail
            go_roundw
            case rel => exact ⟨j + 1, by omega, by go_num, hH.out⟩
            case measure => (simp [intOf]; try omega)
          · obtain rfl : j = k := by omega
            have hsame := set_same g h j (fun i hi => by rw [hg'.out, hh'.out])
            rw [← hsame] at H
            obtain ⟨S, hS⟩ : ∃ S, setK h j = S := ⟨_, rfl⟩
            rw [hS] at H
            have hH := Lib.hid H
            clear hsame hS H at_
            have hA := Lib.hid (bFrame hH.out (memb_ne x.set))
            obtain ⟨F, hF⟩ : ∃ F, stF (memb x.set) x.f S = F := ⟨_, rfl⟩
            have hFb := stF_bd (memb x.set) x.f S
            rw [hF] at hA hFb
            obtain ⟨bF, hbF⟩ : ∃ bF, decide (F < 12) = bF := ⟨_, rfl⟩
            rw [hbF] at hA
            have hF' := Lib.hid hF
            have hbF' := Lib.hid hbF
            clear hF hbF
            go_wp2_with fail
            refine hA.out.mono ?_
            rintro e V1 ⟨rfl, H⟩
            have H1 : SL V1 (TWO x S S []) := by unfold TWO; rw [hF'.out]; exact H
            have hB := bFrame (two_turn H1) (memb_ne x.set)
            rw [hF'.out, hbF'.out] at hB
            have hB' := Lib.hid hB
            clear hA hH H H1 hB
            go_wp2_with fail
            refine hB'.out.mono ?_
            rintro e V2 ⟨rfl, H⟩
            have H2 : SL V2 (TWO x S S []) := two_back (f2 := F) (ps2 := stP (memb x.set) S) (by rw [hF'.out]; exact H) hF'.out.symm rfl
            have hl1 : 1 ≤ (memb x.set).length := by rw [hL'.out]; exact l1
            have hC := Lib.hid (copy_c x.p (memb x.set).length x.c x.m x.a x.f (stF (memb x.set) x.f S) 12 (stP (memb x.set) S) hl1 V2 H2)
            have hH2 := Lib.hid H2
            clear hB' H H2
            go_wp2_with fail
            refine hC.out.mono ?_
            rintro e V3 ⟨p', m', rfl, H⟩
            have H3 : SL V3 (BAR p' m' x.a x.c (memb x.set) x.f (stF (memb x.set) x.f S) 12 (stP (memb x.set) S) (barB x.p (.slice x.a (memb x.set).length x.c) x.f (stF (memb x.set) x.f S) 12 x.m :: iset x.m (stP (memb x.set) S) :: .own 3 1 (.slice x.al (memb x.set).length x.cl) (memb x.set).length (iv (memb x.set)) ::
                BAR x.p2 x.m2 x.a2 x.c2 (memb x.set) x.f (stF (memb x.set) x.f S) 12 (stP (memb x.set) S) [.old x.w no])) :=
              H.re (.step (.here _ _) (.step (.here _ _) (.step (.there (.there (.here _ _))) (.step (.here _ _) (.step (.here _ _) (.same _))))))
            obtain ⟨bm, om, ea, ec⟩ := (OwnK.rdI (H3.ownOf (.there (.there (.there (.there (.there (.here _ _)))))))).2.2.cell (show 0 < (memb x.set).length by omega)
            have hl2 : (memb x.set).length ≤ 100 := by rw [hL'.out]; omega
            obtain ⟨y0, hy0⟩ : ∃ y0, (memb x.set)[0]'(by omega) = y0 := ⟨_, rfl⟩
            rw [hy0, Nat.add_zero] at ec
            obtain ⟨r, hr⟩ : ∃ r, passM x.f (stF (memb x.set) x.f S) 12 (memb x.set) (stP (memb x.set) S) y0 F = r := ⟨_, rfl⟩
            have hP := bPassed H3 (memb_ne x.set) hl2 (by rw [hF'.out]; omega) (by rw [hF'.out]; omega) y0 F (b := r.1) (er := r.2.1) (f' := r.2.2.1) (ps' := r.2.2.2) hr
            have hP' := Lib.hid hP
            rw [hal.out] at ea
            subst ea
            clear hC H H3 hP hr hy0 hl1 hl2 hH2
            go_wp2_with fail
            refine hP'.out.mono ?_
            rintro e V4 ⟨rfl, H⟩
            have H4 : SL V4 (TWO x S S []) := H.re (.step (.there (.there (.there (.here _ _)))) (.step (.there (.there (.there (.here _ _)))) (.step (.there (.there (.here _ _))) (.drop (.drop (.same _))))))
            obtain ⟨X, hX⟩ : ∃ X, missM F 12 (memb x.set) (stP (memb x.set) S) = X := ⟨_, rfl⟩
            have hl2 : (memb x.set).length ≤ 100 := by rw [hL'.out]; omega
            have hXl : X.length ≤ 1000 := by have := missM_len F 12 (memb x.set) (stP (memb x.set) S); rw [hX] at this; omega
            have hM := Lib.hid (bMissing H4 (memb_ne x.set) hl2 (X := X) (by rw [hF'.out]; exact hX))
            have hX' := Lib.hid hX
            clear hP' H H4 hX
            go_wp2_with fail
            refine hM.out.mono ?_
            rintro e V5 ⟨a5, c5, rfl, H⟩
            have H5 : SL V5 (TWO x S S [.own 3 1 (.slice a5 X.length c5) X.length (iv X)]) :=
              H.re (.step (.here _ _) (.step (.here _ _) (.step (.here _ _) (.step (.there (.here _ _)) (.step (.there (.here _ _)) (.step (.there (.here _ _)) (.step (.there (.here _ _)) (.same _))))))))
            have hM2 := Lib.hid (bMissing (two_turn H5) (memb_ne x.set) hl2 (X := X) (by rw [hF'.out]; exact hX'.out))
            clear hM H H5
            go_wp2_with fail
            refine hM2.out.mono ?_
            rintro e V6 ⟨a6, c6, rfl, H⟩
            have H6 : SL V6 (TWO x S S [.own 3 1 (.slice a6 X.length c6) X.length (iv X), .own 3 1 (.slice a5 X.length c5) X.length (iv X)]) :=
              two_back (E := [.own 3 1 (.slice a6 X.length c6) X.length (iv X), .own 3 1 (.slice a5 X.length c5) X.length (iv X)]) (f2 := stF (memb x.set) x.f S) (ps2 := stP (memb x.set) S)
                (H.re (.step (.here _ _) (.step (.here _ _) (.step (.here _ _) (.step (.there (.here _ _)) (.step (.there (.here _ _)) (.step (.there (.here _ _)) (.step (.there (.here _ _)) (.same _)))))))) ) rfl rfl
            have hH6 := Lib.hid H6
            obtain ⟨n, hn⟩ : ∃ n, X.length = n := ⟨_, rfl⟩
            have hn' := Lib.hid hn
            have hr5 := Lib.hid ((OwnK.rdI (H6.ownOf (show Pull _ (.own 3 1 (.slice a5 X.length c5) X.length (iv X)) _ from by unfold TWO BAR; exact (by first | exact .here _ _ | exact .there (.here _ _) | exact .there (.there (.here _ _)) | exact .there (.there (.there (.here _ _))) | exact .there (.there (.there (.there (.here _ _)))) | exact .there (.there (.there (.there (.there (.here _ _))))) | exact .there (.there (.there (.there (.there (.there (.here _ _)))))) | exact .there (.there (.there (.there (.there (.there (.there (.here _ _))))))) | exact .there (.there (.there (.there (.there (.there (.there (.there (.here _ _)))))))) | exact .there (.there (.there (.there (.there (.there (.there (.there (.there (.here _ _))))))))) | exact .there (.there (.there (.there (.there (.there (.there (.there (.there (.there (.here _ _)))))))))) | exact .there (.there (.there (.there (.there (.there (.there (.there (.there (.there (.there (.here _ _))))))))))) | exact .there (.there (.there (.there (.there (.there (.there (.there (.there (.there (.there (.there (.here _ _)))))))))))) | exact .there (.there (.there (.there (.there (.there (.there (.there (.there (.there (.there (.there (.there (.here _ _))))))))))))))))).2.2)
            have hr6 := Lib.hid ((OwnK.rdI (H6.ownOf (show Pull _ (.own 3 1 (.slice a6 X.length c6) X.length (iv X)) _ from by unfold TWO BAR; exact (by first | exact .here _ _ | exact .there (.here _ _) | exact .there (.there (.here _ _)) | exact .there (.there (.there (.here _ _))) | exact .there (.there (.there (.there (.here _ _)))) | exact .there (.there (.there (.there (.there (.here _ _))))) | exact .there (.there (.there (.there (.there (.there (.here _ _)))))) | exact .there (.there (.there (.there (.there (.there (.there (.here _ _))))))) | exact .there (.there (.there (.there (.there (.there (.there (.there (.here _ _)))))))) | exact .there (.there (.there (.there (.there (.there (.there (.there (.there (.here _ _))))))))) | exact .there (.there (.there (.there (.there (.there (.there (.there (.there (.there (.here _ _)))))))))) | exact .there (.there (.there (.there (.there (.there (.there (.there (.there (.there (.there (.here _ _))))))))))) | exact .there (.there (.there (.there (.there (.there (.there (.there (.there (.there (.there (.there (.here _ _)))))))))))) | exact .there (.there (.there (.there (.there (.there (.there (.there (.there (.there (.there (.there (.there (.here _ _))))))))))))))))).2.2)
            rw [hn] at hXl ⊢
            have hhas := Lib.hid (fun y => bHas H6 (memb_ne x.set) hl2 y F)
            rw [hF'.out] at hhas
            have hkp := Lib.hid (two_kp H6)
            clear hM2 H H6 hn hl2
            go_wp2_with fail
            go_loop [133] (fun i => ∃ t : Nat, t ≤ n ∧ i = .int .i64 t) (fun i => n - (intOf i).toNat)
            case atStart => exact ⟨0, by omega, rfl⟩
            case round =>
              obtain ⟨t, ht, rfl⟩ := hrel
              by_cases htn : t < n
              · have htX : t < X.length := by rw [hn'.out]; exact htn
                obtain ⟨b5, o5, rfl, cy⟩ := hr5.out.cell htX
                have hmem : X[t]'htX ∈ missM F 12 (memb x.set) (stP (memb x.set) S) := by rw [hX'.out]; exact List.getElem_mem htX
                have hhv := has_missing (fr := x.f) hmem
                have hh2 := hhas.out (X[t]'htX)
                rw [hhv] at hh2
                have hh2' := Lib.hid hh2
                have hb1 : bF = true := by
                  rw [← hbF'.out]
                  have : F ≠ 12 := by
                    rintro rfl
                    unfold missM at hmem
                    rw [if_pos rfl] at hmem
                    cases hmem
                  simp; omega
                subst hb1
                generalize X[t]'htX = y at *
                clear hmem hhv hh2
                go_wp2_with fail
                refine hh2'.out.mono ?_
                rintro e w' ⟨rfl, rfl⟩
                go_wp2_with fail
                go_round
                case rel => exact ⟨t + 1, by omega, by go_num⟩
                case measure => (simp [intOf]; try omega)
              · obtain rfl : t = n := by omega
                have hI := ints_yes a5 a6 X c5 c6 V6 (by rw [hn'.out]; omega) hr5.out hr6.out
                rw [hn'.out] at hI
                have hI' := Lib.hid hI
                clear hI
                go_wp2_with fail
                refine hI'.out.mono ?_
                rintro e V7 ⟨rfl, nd, rfl⟩
                have hk7 := Lib.hid (hkp.out.drewN nd)
                go_wp2_with fail
                go_ret
                exact ⟨rfl, hk7.out⟩

theorem walkOrders (set fr : Int) (a : Option Addr) (len cap : Nat) (zs : List Int) (w : World) (w0 : (Lit.int .u8 set).wf = true) (w1 : (Lit.int .u8 fr).wf = true) (w2 : IsRow .u8 w a len cap zs) :
    Calls Try.prog 6 #[.int .u8 set, .int .u8 fr, .slice a len cap] w fun e w' => e = .returned (.bool true) ∧ Below w.heap.size w w' := by
  have h0 := wf_b w0
  have h1 := wf_b w1
  have h2 := w2.len
  refine (orders_c set fr a len cap zs w h0.1 h0.2 h1.1 h1.2 (by have := h2.1; have := h2.2.1; unfold maxLen at this; omega) w2.rd ?_).mono fun _ _ ⟨q1, q2⟩ => ⟨q1, q2.self_below⟩
  intro i
  by_cases hi : i < zs.length
  · rw [List.getD_eq_getElem?_getD, List.getElem?_eq_getElem hi]
    exact wf_b (h2.2.2.2 _ (List.getElem_mem hi))
  · rw [List.getD_eq_getElem?_getD, List.getElem?_eq_none (by omega)]
    simp
end Go.Proofs.Ytejgkehcplajhaa

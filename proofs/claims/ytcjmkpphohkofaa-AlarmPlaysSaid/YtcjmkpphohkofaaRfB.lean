/- The reference's Left, Rung, Set, Calm. -/
import Derived.Test.YtcjmkpphohkofaaRfA
namespace Go.Proofs.Ytcjmkpphohkofaa
open Go.RowKit Go.Shelf
set_option linter.unusedVariables false

section
variable {R : Int} {y : Nat} {s : Ck} {L : List Pc} {w : World}
theorem atis_no {ol : List Al} {k r : Int} (h : AtIs ol k r) (hn : k ∉ keysK ol) : r = -1 := by
  rcases h with ⟨h, _⟩ | ⟨i, hi, -, e⟩
  · exact h
  · exact absurd (by rw [← e]; exact List.mem_map.2 ⟨_, List.getElem_mem hi, rfl⟩) hn
theorem atis_yes {ol : List Al} {k r : Int} (h : AtIs ol k r) (hy : k ∈ keysK ol) : ∃ (i : Nat) (hi : i < ol.length), r = i ∧ (ol[i]'hi).key = k := by
  rcases h with ⟨_, h⟩ | h
  · exact absurd hy h
  · exact h
theorem rleft_c (H : RF R y s L w) (k : Int) :
    Calls Try.prog 41 #[ptrV y, .int .u64 k] w fun e w' => e = .returned (.tuple #[.int .i64 (theK s.l k).left, .bool (decide (0 < (theK s.l k).left))]) ∧ RF R y s L w' := by
  obtain ⟨now, sl, ol, HS, ok⟩ := H
  have hlen : ol.length ≤ 256 := by rw [ok.len]; exact ok.2.2.len
  have hat := Lib.hid (at_c HS hlen k)
  have hH := Lib.hid HS
  have hok := Lib.hid ok
  cases hh : hasK s.l k with
  | false =>
    have hno : k ∉ keysK ol := fun h => by rw [ok.has.2 h] at hh; cases hh
    rw [the_no hh]
    clear HS ok hh
    unfold ptrV at *
    go_enter Try.func41, Try.ntmps41
    go_wp2_with fail
    refine hat.out.mono ?_
    rintro e w2 ⟨r, rfl, rfl, hr⟩
    obtain rfl := atis_no hr hno
    clear hat hr hno
    go_wp2_with fail
    go_ret2
    exact ⟨rfl, _, _, _, hH.out, hok.out⟩
  | true =>
    have hyes := ok.has.1 hh
    have c2 := HS.cell (b := y) (o := 2) (.here _ _) rfl
    have c3 := HS.cell (b := y) (o := 3) (.here _ _) rfl
    obtain ⟨sa, sc, rfl, hsc, -⟩ := sl_form (HS.re (.step (.there (.here _ _)) (.same _)))
    have hcl : Hid (∀ i (hi : i < ol.length), ∃ g, sa = some ⟨g, 0, none⟩ ∧ w.cell? ⟨g, i * 4 + 2, none⟩ = some (.int .i64 (ol[i]'hi).left)) := Lib.hid fun i hi => by
      obtain ⟨g, cap, e, -, -, -, h, -⟩ := own_alE (HS.re (.step (.there (.here _ _)) (.same _))) hi
      cases e
      exact ⟨g, rfl, h⟩
    clear HS ok
    unfold ptrV at *
    go_enter Try.func41, Try.ntmps41
    go_wp2_with fail
    refine hat.out.mono ?_
    rintro e w2 ⟨r, rfl, rfl, hr⟩
    obtain ⟨i, hi, rfl, hk⟩ := atis_yes hr hyes
    obtain ⟨g, rfl, g1⟩ := hcl.out i hi
    have hth0 := hok.out.the hi
    rw [hk] at hth0
    have hthe : Hid ((theK s.l k).left = (ol[i]'hi).left - now) := Lib.hid (by rw [hth0]; rfl)
    have hlb : 1 ≤ (ol[i]'hi).left - (now : Int) ∧ (ol[i]'hi).left - (now : Int) ≤ s.b := (hok.out.at' hi).left
    have hbb := hok.out.2.2.b
    have hq : Hid (∀ nq, RF R y s L (w.drewN nq)) := Lib.hid fun nq => ⟨_, _, _, hH.out.drewN nq, hok.out⟩
    clear hat hr hcl hyes hk hh hH hok hth0
    generalize (ol[i]'hi).left = lf at *
    generalize ol.length = n at *
    have hi1 : i + 1 ≤ sc := by omega
    have hwr : IntKind.i64.wrap (lf - (now : Int)) = lf - (now : Int) := IntWalk.i64_in _ ⟨by omega, by omega⟩
    go_wp2_with fail
    go_quiet (fail)
    have hf := Lib.hid (hq.out nq)
    clear g1 c2 c3 hq
    go_wp2_with fail
    go_ret2
    rw [hthe.out]
    refine ⟨?_, hf.out⟩
    have : decide (0 < lf - (now : Int)) = true := by simp; omega
    rw [this]
    rfl
theorem rrung_c (H : RF R y s L w) (k : Int) :
    Calls Try.prog 42 #[ptrV y, .int .u64 k] w fun e w' => e = .returned (.int .i64 (theK s.l k).rung) ∧ w = w' := by
  obtain ⟨now, sl, ol, HS, ok⟩ := H
  have hlen : ol.length ≤ 256 := by rw [ok.len]; exact ok.2.2.len
  have hat := Lib.hid (at_c HS hlen k)
  have hok := Lib.hid ok
  cases hh : hasK s.l k with
  | false =>
    have hno : k ∉ keysK ol := fun h => by rw [ok.has.2 h] at hh; cases hh
    rw [the_no hh]
    clear HS ok hh
    unfold ptrV at *
    go_enter Try.func42, Try.ntmps42
    go_wp2_with fail
    refine hat.out.mono ?_
    rintro e w2 ⟨r, rfl, rfl, hr⟩
    obtain rfl := atis_no hr hno
    clear hat hr hno
    go_wp2_with fail
    go_ret
    exact ⟨rfl, rfl⟩
  | true =>
    have hyes := ok.has.1 hh
    have c3 := HS.cell (b := y) (o := 3) (.here _ _) rfl
    obtain ⟨sa, sc, rfl, hsc, -⟩ := sl_form (HS.re (.step (.there (.here _ _)) (.same _)))
    have hcl : Hid (∀ i (hi : i < ol.length), ∃ g, sa = some ⟨g, 0, none⟩ ∧ w.cell? ⟨g, i * 4 + 3, none⟩ = some (.int .i64 (ol[i]'hi).rung)) := Lib.hid fun i hi => by
      obtain ⟨g, cap, e, -, -, -, -, h⟩ := own_alE (HS.re (.step (.there (.here _ _)) (.same _))) hi
      cases e
      exact ⟨g, rfl, h⟩
    clear HS ok
    unfold ptrV at *
    go_enter Try.func42, Try.ntmps42
    go_wp2_with fail
    refine hat.out.mono ?_
    rintro e w2 ⟨r, rfl, rfl, hr⟩
    obtain ⟨i, hi, rfl, hk⟩ := atis_yes hr hyes
    obtain ⟨g, rfl, g1⟩ := hcl.out i hi
    have hth0 := hok.out.the hi
    rw [hk] at hth0
    have hthe : Hid ((theK s.l k).rung = (ol[i]'hi).rung) := Lib.hid (by rw [hth0]; rfl)
    clear hat hr hcl hyes hk hh hok hth0
    generalize (ol[i]'hi).rung = rg at *
    generalize ol.length = n at *
    have hi1 : i + 1 ≤ sc := by omega
    go_wp2_with fail
    go_ret
    rw [hthe.out]
    exact ⟨rfl, rfl⟩

set_option maxRecDepth 100000 in
set_option maxHeartbeats 8000000 in
theorem rset_c (H : RF R y s L w) (hR0 : 0 ≤ R) (hR : R ≤ 1000000000) {k : Int} (hk : u64k k) :
    Calls Try.prog 36 #[ptrV y, .int .u64 k] w fun e w' => e = .returned (.int .i64 (setE s k)) ∧ RF R y (setS s k) L w' := by
  obtain ⟨now, sl, ol, HS, ok⟩ := H
  have hlen : ol.length ≤ 256 := by rw [ok.len]; exact ok.2.2.len
  have hll := ok.len
  have hat := Lib.hid (at_c HS hlen k)
  obtain ⟨sa, sc, rfl, hsc, -⟩ := sl_form (HS.re (.step (.there (.here _ _)) (.same _)))
  have hH := Lib.hid HS
  have hok := Lib.hid ok
  have c3 := HS.cell (b := y) (o := 3) (.here _ _) rfl
  obtain ⟨n, hn⟩ : ∃ n, ol.length = n := ⟨_, rfl⟩
  have hn' := Lib.hid hn
  by_cases hc : hasK s.l k = true ∨ 256 ≤ s.l.length
  · have he : Hid (setE s k = 200) := Lib.hid (by unfold setE; rw [if_pos hc])
    have hs : Hid (setS s k = s) := Lib.hid (by unfold setS; rw [if_pos hc])
    rw [he.out, hs.out]
    have hc2 : Hid (∀ r, AtIs ol k r → 0 ≤ r ∨ (r = -1 ∧ 256 ≤ n)) := Lib.hid fun r hr => by
      rcases hr with ⟨rfl, h⟩ | ⟨i, hi, rfl, -⟩
      · rcases hc with h1 | h1
        · exact absurd (ok.has.1 h1) h
        · exact .inr ⟨rfl, by omega⟩
      · exact .inl (by omega)
    rw [hn] at c3 hlen
    clear HS ok hc hll hn hsc
    unfold ptrV at *
    go_enter Try.func36, Try.ntmps36
    go_wp2_with fail
    refine hat.out.mono ?_
    rintro e w2 ⟨r, rfl, rfl, hr⟩
    rcases hc2.out r hr with h1 | ⟨rfl, h1⟩
    · clear hat hr hc2
      go_wp2_with fail
      go_ret
      exact ⟨rfl, _, _, _, hH.out, hok.out⟩
    · clear hat hr hc2
      go_wp2_with fail
      go_ret
      exact ⟨rfl, _, _, _, hH.out, hok.out⟩
  · have he : Hid (setE s k = 0) := Lib.hid (by unfold setE; rw [if_neg hc])
    have hs : Hid (setS s k = { s with l := insK s.l k s.a }) := Lib.hid (by unfold setS; rw [if_neg hc])
    rw [he.out, hs.out]
    obtain ⟨h1, h2⟩ := not_or.1 hc
    have hno : k ∉ keysK ol := fun h => h1 (ok.has.2 h)
    have hl2 : n < 256 := by omega
    have hok2 : Hid (RfOk R { s with l := insK s.l k s.a } now (ol ++ [⟨k, s.a, now + s.a, 0⟩])) := Lib.hid ⟨ok.1, by
      rw [List.map_append]
      refine List.Perm.trans ?_ (insK_perm s.l k s.a).symm
      refine List.perm_append_comm.trans ?_
      show (decA now ⟨k, s.a, now + s.a, 0⟩ :: ol.map (decA now)).Perm _
      rw [show decA now ⟨k, s.a, now + s.a, 0⟩ = ⟨k, s.a, s.a, 0⟩ from by unfold decA; dsimp only; congr 1; omega]
      exact ok.2.1.cons _, ok.2.2.ins hR0 hk (by simpa using h1) (by omega)⟩
    have hnow := ok.1
    have ha := ok.2.2.a
    have hbb := ok.2.2.b
    unfold rfP at hH
    rw [hn] at c3 hH hsc
    have hal : Hid (alC (ol ++ [⟨k, s.a, now + s.a, 0⟩]) = alC ol ++ [.int .u64 k, .int .i64 s.a, .int .i64 (now + s.a), .int .i64 0]) := Lib.hid (by rw [alC_append]; rfl)
    have hl3 : Hid ((ol ++ [(⟨k, s.a, now + s.a, 0⟩ : Al)]).length = n + 1) := Lib.hid (by simp [hn])
    clear HS ok hc hll hn h1 h2
    obtain ⟨a, b, l⟩ := s
    dsimp only at *
    have hwr : IntKind.i64.wrap ((now : Int) + a) = (now : Int) + a := IntWalk.i64_in _ ⟨by omega, by omega⟩
    have hfin : Hid (∀ V v, SL V (.blk y [.int .i64 a, .int .i64 b, .int .i64 now, v] 71 :: .own 73 4 v (n + 1) (alC ol ++ [.int .u64 k, .int .i64 a, .int .i64 (now + a), .int .i64 0]) :: L) → RF R y ⟨a, b, insK l k a⟩ L V) := Lib.hid fun V v h => ⟨now, v, _, by unfold rfP; rw [hal.out, hl3.out]; exact h, hok2.out⟩
    have hH := Lib.hid (show SL w (_ :: _ :: L) from hH.out)
    clear hal hl3 hok2 hok he hs
    generalize alC ol = xs at *
    unfold ptrV at *
    go_enter Try.func36, Try.ntmps36
    go_wp2_with fail
    refine hat.out.mono ?_
    rintro e w2 ⟨r, rfl, rfl, hr⟩
    obtain rfl := atis_no hr hno
    clear hat hr hno
    go_upto_region 4 with (fail)
    clear c3
    refine wp_region_held_drew (S := (fun W => W.cell? ⟨y, 0, none⟩ = some (.int .i64 a) ∧ W.cell? ⟨y, 2, none⟩ = some (.int .i64 now))) (by kernel_rfl) ?_ (fun hHeld => ?_)
    · have H := hH.out.drew
      exact ⟨H.cell (b := y) (o := 0) (by first | exact .here _ _ | exact .there (.here _ _) | exact .there (.there (.here _ _)) | exact .there (.there (.there (.here _ _))) | exact .there (.there (.there (.there (.here _ _)))) | exact .there (.there (.there (.there (.there (.here _ _))))) | exact .there (.there (.there (.there (.there (.there (.here _ _)))))) | exact .there (.there (.there (.there (.there (.there (.there (.here _ _))))))) | exact .there (.there (.there (.there (.there (.there (.there (.there (.here _ _)))))))) | exact .there (.there (.there (.there (.there (.there (.there (.there (.there (.here _ _))))))))) | exact .there (.there (.there (.there (.there (.there (.there (.there (.there (.there (.here _ _)))))))))) | exact .there (.there (.there (.there (.there (.there (.there (.there (.there (.there (.there (.here _ _))))))))))) | exact .there (.there (.there (.there (.there (.there (.there (.there (.there (.there (.there (.there (.here _ _)))))))))))) | exact .there (.there (.there (.there (.there (.there (.there (.there (.there (.there (.there (.there (.there (.here _ _)))))))))))))) rfl, H.cell (b := y) (o := 2) (by first | exact .here _ _ | exact .there (.here _ _) | exact .there (.there (.here _ _)) | exact .there (.there (.there (.here _ _))) | exact .there (.there (.there (.there (.here _ _)))) | exact .there (.there (.there (.there (.there (.here _ _))))) | exact .there (.there (.there (.there (.there (.there (.here _ _)))))) | exact .there (.there (.there (.there (.there (.there (.there (.here _ _))))))) | exact .there (.there (.there (.there (.there (.there (.there (.there (.here _ _)))))))) | exact .there (.there (.there (.there (.there (.there (.there (.there (.there (.here _ _))))))))) | exact .there (.there (.there (.there (.there (.there (.there (.there (.there (.there (.here _ _)))))))))) | exact .there (.there (.there (.there (.there (.there (.there (.there (.there (.there (.there (.here _ _))))))))))) | exact .there (.there (.there (.there (.there (.there (.there (.there (.there (.there (.there (.there (.here _ _)))))))))))) | exact .there (.there (.there (.there (.there (.there (.there (.there (.there (.there (.there (.there (.there (.here _ _)))))))))))))) rfl⟩
    have H := hH.out.drew
    generalize World.drew w = w4 at *
    clear hH
    refine takeL (i := 0) rfl (by kernel_rfl) (by kernel_rfl) (by kernel_rfl) (fun _ _ _ _ h => h) hHeld ?_ (Or.inl ⟨by rfl, ?_⟩) ?_
    rotate_left
    · intro W hW
      (try dsimp only at hW)
      first | (go_simp; done) | (go_simp; with_reducible rfl)
    ((try simp only [Act.put]); (try simp only [List.setIfInBounds_toArray]); (try simp only [List.set_cons_succ]); (try simp only [List.set_cons_zero]))
    refine takeL (i := 1) rfl (by kernel_rfl) (by kernel_rfl) (by kernel_rfl) (fun _ _ _ _ h => h) hHeld ?_ (Or.inl ⟨by rfl, ?_⟩) ?_
    rotate_left
    · intro W hW
      (try dsimp only at hW)
      first | (go_simp; done) | (go_simp; with_reducible rfl)
    ((try simp only [Act.put]); (try simp only [List.setIfInBounds_toArray]); (try simp only [List.set_cons_succ]); (try simp only [List.set_cons_zero]))
    refine takeL (i := 2) rfl (by kernel_rfl) (by kernel_rfl) (by kernel_rfl) (fun _ _ _ _ h => h) hHeld ?_ (Or.inl ⟨by rfl, ?_⟩) ?_
    rotate_left
    · intro W hW
      (try dsimp only at hW)
      first | (go_simp; done) | (go_simp; with_reducible rfl)
    ((try simp only [Act.put]); (try simp only [List.setIfInBounds_toArray]); (try simp only [List.set_cons_succ]); (try simp only [List.set_cons_zero]))
    refine takeL (i := 3) rfl (by kernel_rfl) (by kernel_rfl) (by kernel_rfl) (fun _ _ _ _ h => h) hHeld ?_ (Or.inl ⟨by rfl, ?_⟩) ?_
    rotate_left
    · intro W hW
      (try dsimp only at hW)
      first | (go_simp; done) | (go_simp; with_reducible rfl)
    ((try simp only [Act.put]); (try simp only [List.setIfInBounds_toArray]); (try simp only [List.set_cons_succ]); (try simp only [List.set_cons_zero]))
    refine takeL (i := 5) rfl (by kernel_rfl) (by kernel_rfl) (by kernel_rfl) (fun _ _ _ _ h => h) hHeld ?_ (Or.inl ⟨by rfl, ?_⟩) ?_
    rotate_left
    · intro W hW
      (try dsimp only at hW)
      first | (go_simp; done) | (go_simp; with_reducible rfl)
    ((try simp only [Act.put]); (try simp only [List.setIfInBounds_toArray]); (try simp only [List.set_cons_succ]); (try simp only [List.set_cons_zero]))
    refine takeL (i := 6) rfl (by kernel_rfl) (by kernel_rfl) (by kernel_rfl) (fun _ _ _ _ h => h) hHeld ?_ (Or.inl ⟨by rfl, ?_⟩) ?_
    rotate_left
    · intro W hW
      (try dsimp only at hW)
      first | (go_simp; done) | (go_simp; with_reducible rfl)
    ((try simp only [Act.put]); (try simp only [List.setIfInBounds_toArray]); (try simp only [List.set_cons_succ]); (try simp only [List.set_cons_zero]))
    refine takeL (i := 7) rfl (by kernel_rfl) (by kernel_rfl) (by kernel_rfl) (fun _ _ _ _ h => h) hHeld ?_ (Or.inl ⟨by rfl, ?_⟩) ?_
    rotate_left
    · intro W hW
      (try dsimp only at hW)
      first | (go_simp; done) | (go_simp; with_reducible rfl)
    ((try simp only [Act.put]); (try simp only [List.setIfInBounds_toArray]); (try simp only [List.set_cons_succ]); (try simp only [List.set_cons_zero]))
    refine takeL (i := 8) rfl (by kernel_rfl) (by kernel_rfl) (by kernel_rfl) (fun _ _ _ _ h => h) hHeld ?_ (Or.inl ⟨by rfl, ?_⟩) ?_
    rotate_left
    · intro W hW
      (try dsimp only at hW)
      first | (go_simp; done) | (go_simp; with_reducible rfl)
    ((try simp only [Act.put]); (try simp only [List.setIfInBounds_toArray]); (try simp only [List.set_cons_succ]); (try simp only [List.set_cons_zero]))
    refine takeL (i := 9) rfl (by kernel_rfl) (by kernel_rfl) (by kernel_rfl) (fun _ _ _ _ h => h) hHeld ?_ (Or.inl ⟨by rfl, ?_⟩) ?_
    rotate_left
    · intro W hW
      (try dsimp only at hW)
      first | (go_simp; done) | (go_simp; with_reducible rfl)
    ((try simp only [Act.put]); (try simp only [List.setIfInBounds_toArray]); (try simp only [List.set_cons_succ]); (try simp only [List.set_cons_zero]))
    refine takeL (i := 10) rfl (by kernel_rfl) (by kernel_rfl) (by kernel_rfl) (fun _ _ _ _ h => h) hHeld ?_ (Or.inl ⟨by rfl, ?_⟩) ?_
    rotate_left
    · intro W hW
      (try dsimp only at hW)
      first | (go_simp; done) | (go_simp; with_reducible rfl)
    ((try simp only [Act.put]); (try simp only [List.setIfInBounds_toArray]); (try simp only [List.set_cons_succ]); (try simp only [List.set_cons_zero]))
    refine takeL (i := 11) rfl (by kernel_rfl) (by kernel_rfl) (by kernel_rfl) (fun _ _ _ _ h => h) hHeld ?_ (Or.inl ⟨by rfl, ?_⟩) ?_
    rotate_left
    · intro W hW
      (try dsimp only at hW)
      first | (go_simp; done) | (go_simp; with_reducible rfl)
    ((try simp only [Act.put]); (try simp only [List.setIfInBounds_toArray]); (try simp only [List.set_cons_succ]); (try simp only [List.set_cons_zero]))
    refine takeL (i := 12) rfl (by kernel_rfl) (by kernel_rfl) (by kernel_rfl) (fun _ _ _ _ h => h) hHeld ?_ (Or.inl ⟨by rfl, ?_⟩) ?_
    rotate_left
    · intro W hW
      (try dsimp only at hW)
      first | (go_simp; done) | (go_simp; with_reducible rfl)
    ((try simp only [Act.put]); (try simp only [List.setIfInBounds_toArray]); (try simp only [List.set_cons_succ]); (try simp only [List.set_cons_zero]))
    refine takeL (i := 13) rfl (by kernel_rfl) (by kernel_rfl) (by kernel_rfl) (fun _ _ _ _ h => h) hHeld ?_ (Or.inl ⟨by rfl, ?_⟩) ?_
    rotate_left
    · intro W hW
      (try dsimp only at hW)
      first | (go_simp; done) | (go_simp; with_reducible rfl)
    ((try simp only [Act.put]); (try simp only [List.setIfInBounds_toArray]); (try simp only [List.set_cons_succ]); (try simp only [List.set_cons_zero]))
    refine takeL (i := 14) rfl (by kernel_rfl) (by kernel_rfl) (by kernel_rfl) (fun _ _ _ _ h => h) hHeld ?_ (Or.inl ⟨by rfl, ?_⟩) ?_
    rotate_left
    · intro W hW
      (try dsimp only at hW)
      first | (go_simp; done) | (go_simp; with_reducible rfl)
    ((try simp only [Act.put]); (try simp only [List.setIfInBounds_toArray]); (try simp only [List.set_cons_succ]); (try simp only [List.set_cons_zero]))
    refine takeL (i := 15) rfl (by kernel_rfl) (by kernel_rfl) (by kernel_rfl) (fun _ _ _ _ h => h) hHeld ?_ (Or.inl ⟨by rfl, ?_⟩) ?_
    rotate_left
    · intro W hW
      (try dsimp only at hW)
      first | (go_simp; done) | (go_simp; with_reducible rfl)
    ((try simp only [Act.put]); (try simp only [List.setIfInBounds_toArray]); (try simp only [List.set_cons_succ]); (try simp only [List.set_cons_zero]))
    refine takeL (i := 16) rfl (by kernel_rfl) (by kernel_rfl) (by kernel_rfl) (fun _ _ _ _ h => h) hHeld ?_ (Or.inl ⟨by rfl, ?_⟩) ?_
    rotate_left
    · intro W hW
      (try dsimp only at hW)
      first | (go_simp; done) | (go_simp; with_reducible rfl)
    ((try simp only [Act.put]); (try simp only [List.setIfInBounds_toArray]); (try simp only [List.set_cons_succ]); (try simp only [List.set_cons_zero]))
    refine takeL (i := 17) rfl (by kernel_rfl) (by kernel_rfl) (by kernel_rfl) (fun _ _ _ _ h => h) hHeld ?_ (Or.inl ⟨by rfl, ?_⟩) ?_
    rotate_left
    · intro W hW
      (try dsimp only at hW)
      first | (go_simp; done) | (go_simp; with_reducible rfl)
    ((try simp only [Act.put]); (try simp only [List.setIfInBounds_toArray]); (try simp only [List.set_cons_succ]); (try simp only [List.set_cons_zero]))
    refine takeL (i := 18) rfl (by kernel_rfl) (by kernel_rfl) (by kernel_rfl) (fun _ _ _ _ h => h) hHeld ?_ (Or.inl ⟨by rfl, ?_⟩) ?_
    rotate_left
    · intro W hW
      (try dsimp only at hW)
      first | (go_simp; done) | (go_simp; with_reducible rfl)
    ((try simp only [Act.put]); (try simp only [List.setIfInBounds_toArray]); (try simp only [List.set_cons_succ]); (try simp only [List.set_cons_zero]))
    refine takeL (i := 19) rfl (by kernel_rfl) (by kernel_rfl) (by kernel_rfl) (fun _ _ _ _ h => h) hHeld ?_ (Or.inl ⟨by rfl, ?_⟩) ?_
    rotate_left
    · intro W hW
      (try dsimp only at hW)
      first | (go_simp; done) | (go_simp; with_reducible rfl)
    ((try simp only [Act.put]); (try simp only [List.setIfInBounds_toArray]); (try simp only [List.set_cons_succ]); (try simp only [List.set_cons_zero]))
    refine callL2 (i := 4) (j := 20) rfl rfl (by kernel_rfl) (fun K hK => ?_) (fun K hK => ?_)
    · rw [if_pos (by rfl)]
      have c2 := H.cell (b := y) (o := 3) (by first | exact .here _ _ | exact .there (.here _ _) | exact .there (.there (.here _ _)) | exact .there (.there (.there (.here _ _))) | exact .there (.there (.there (.there (.here _ _)))) | exact .there (.there (.there (.there (.there (.here _ _))))) | exact .there (.there (.there (.there (.there (.there (.here _ _)))))) | exact .there (.there (.there (.there (.there (.there (.there (.here _ _))))))) | exact .there (.there (.there (.there (.there (.there (.there (.there (.here _ _)))))))) | exact .there (.there (.there (.there (.there (.there (.there (.there (.there (.here _ _))))))))) | exact .there (.there (.there (.there (.there (.there (.there (.there (.there (.there (.here _ _)))))))))) | exact .there (.there (.there (.there (.there (.there (.there (.there (.there (.there (.there (.here _ _))))))))))) | exact .there (.there (.there (.there (.there (.there (.there (.there (.there (.there (.there (.there (.here _ _)))))))))))) | exact .there (.there (.there (.there (.there (.there (.there (.there (.there (.there (.there (.there (.there (.here _ _)))))))))))))) rfl
      go_simp
      clear c2 hHeld
      refine hK.out _ _ ?_ (fun hHeld => ?_)
      · exact ⟨H.cell (b := y) (o := 0) (by first | exact .here _ _ | exact .there (.here _ _) | exact .there (.there (.here _ _)) | exact .there (.there (.there (.here _ _))) | exact .there (.there (.there (.there (.here _ _)))) | exact .there (.there (.there (.there (.there (.here _ _))))) | exact .there (.there (.there (.there (.there (.there (.here _ _)))))) | exact .there (.there (.there (.there (.there (.there (.there (.here _ _))))))) | exact .there (.there (.there (.there (.there (.there (.there (.there (.here _ _)))))))) | exact .there (.there (.there (.there (.there (.there (.there (.there (.there (.here _ _))))))))) | exact .there (.there (.there (.there (.there (.there (.there (.there (.there (.there (.here _ _)))))))))) | exact .there (.there (.there (.there (.there (.there (.there (.there (.there (.there (.there (.here _ _))))))))))) | exact .there (.there (.there (.there (.there (.there (.there (.there (.there (.there (.there (.there (.here _ _)))))))))))) | exact .there (.there (.there (.there (.there (.there (.there (.there (.there (.there (.there (.there (.there (.here _ _)))))))))))))) rfl, H.cell (b := y) (o := 2) (by first | exact .here _ _ | exact .there (.here _ _) | exact .there (.there (.here _ _)) | exact .there (.there (.there (.here _ _))) | exact .there (.there (.there (.there (.here _ _)))) | exact .there (.there (.there (.there (.there (.here _ _))))) | exact .there (.there (.there (.there (.there (.there (.here _ _)))))) | exact .there (.there (.there (.there (.there (.there (.there (.here _ _))))))) | exact .there (.there (.there (.there (.there (.there (.there (.there (.here _ _)))))))) | exact .there (.there (.there (.there (.there (.there (.there (.there (.there (.here _ _))))))))) | exact .there (.there (.there (.there (.there (.there (.there (.there (.there (.there (.here _ _)))))))))) | exact .there (.there (.there (.there (.there (.there (.there (.there (.there (.there (.there (.here _ _))))))))))) | exact .there (.there (.there (.there (.there (.there (.there (.there (.there (.there (.there (.there (.here _ _)))))))))))) | exact .there (.there (.there (.there (.there (.there (.there (.there (.there (.there (.there (.there (.there (.here _ _)))))))))))))) rfl⟩
      clear hK K
      ((try simp only [Act.put]); (try simp only [List.setIfInBounds_toArray]); (try simp only [List.set_cons_succ]); (try simp only [List.set_cons_zero]))
      refine callL (i := 20) rfl (by kernel_rfl) (fun K hK => ?_)
      rw [if_pos (by rfl)]
      go_simp
      have H' := (H.alloc [.int .u64 k, .int .i64 a, .int .i64 (now + a), .int .i64 0] 73)
      clear H hHeld
      have H := H'
      clear H'
      generalize w4.alloc (.cells [Value.int .u64 k, .int .i64 a, .int .i64 (now + a), .int .i64 0].toArray 73) = w5 at *
      generalize w4.heap.size = vb at *
      refine hK.out _ _ ?_ (fun hHeld => ?_)
      · exact ⟨H.cell (b := y) (o := 0) (by first | exact .here _ _ | exact .there (.here _ _) | exact .there (.there (.here _ _)) | exact .there (.there (.there (.here _ _))) | exact .there (.there (.there (.there (.here _ _)))) | exact .there (.there (.there (.there (.there (.here _ _))))) | exact .there (.there (.there (.there (.there (.there (.here _ _)))))) | exact .there (.there (.there (.there (.there (.there (.there (.here _ _))))))) | exact .there (.there (.there (.there (.there (.there (.there (.there (.here _ _)))))))) | exact .there (.there (.there (.there (.there (.there (.there (.there (.there (.here _ _))))))))) | exact .there (.there (.there (.there (.there (.there (.there (.there (.there (.there (.here _ _)))))))))) | exact .there (.there (.there (.there (.there (.there (.there (.there (.there (.there (.there (.here _ _))))))))))) | exact .there (.there (.there (.there (.there (.there (.there (.there (.there (.there (.there (.there (.here _ _)))))))))))) | exact .there (.there (.there (.there (.there (.there (.there (.there (.there (.there (.there (.there (.there (.here _ _)))))))))))))) rfl, H.cell (b := y) (o := 2) (by first | exact .here _ _ | exact .there (.here _ _) | exact .there (.there (.here _ _)) | exact .there (.there (.there (.here _ _))) | exact .there (.there (.there (.there (.here _ _)))) | exact .there (.there (.there (.there (.there (.here _ _))))) | exact .there (.there (.there (.there (.there (.there (.here _ _)))))) | exact .there (.there (.there (.there (.there (.there (.there (.here _ _))))))) | exact .there (.there (.there (.there (.there (.there (.there (.there (.here _ _)))))))) | exact .there (.there (.there (.there (.there (.there (.there (.there (.there (.here _ _))))))))) | exact .there (.there (.there (.there (.there (.there (.there (.there (.there (.there (.here _ _)))))))))) | exact .there (.there (.there (.there (.there (.there (.there (.there (.there (.there (.there (.here _ _))))))))))) | exact .there (.there (.there (.there (.there (.there (.there (.there (.there (.there (.there (.there (.here _ _)))))))))))) | exact .there (.there (.there (.there (.there (.there (.there (.there (.there (.there (.there (.there (.there (.here _ _)))))))))))))) rfl⟩
      clear hK K
      ((try simp only [Act.put]); (try simp only [List.setIfInBounds_toArray]); (try simp only [List.set_cons_succ]); (try simp only [List.set_cons_zero]))
      refine callL (i := 21) rfl (by kernel_rfl) (fun K hK => ?_)
      rw [if_pos (by rfl)]
      have hrd := rd_front H
      obtain ⟨v', w7, hrun, H7, -⟩ := SL.appended (P := Try.prog) (ty := 69) elemO (H.pull (.there (.there (.here _ _)))) (m := 1) (c := 1) (ys := [.int .u64 k, .int .i64 a, .int .i64 (now + a), .int .i64 0]) rfl hrd (by simp [Value.oneCell']) (by simp only [maxLen]; omega) (by omega) (fun h => by cases h)
      obtain ⟨va, vc, rfl, -⟩ := OwnK.slice H7.head
      refine Lib.wp_append_run _ _ _ _ _ rfl (.slice sa n sc) (.slice (some ⟨vb, 0, none⟩) 1 1) rfl rfl _ _ hrun ?_
      clear H hHeld hrd hrun
      have H := H7.re (.step (.there (.there (.here _ _))) (.step (.here _ _) (.drop (.same _))))
      clear H7
      refine hK.out _ _ ?_ (fun hHeld => ?_)
      · exact ⟨H.cell (b := y) (o := 0) (by first | exact .here _ _ | exact .there (.here _ _) | exact .there (.there (.here _ _)) | exact .there (.there (.there (.here _ _))) | exact .there (.there (.there (.there (.here _ _)))) | exact .there (.there (.there (.there (.there (.here _ _))))) | exact .there (.there (.there (.there (.there (.there (.here _ _)))))) | exact .there (.there (.there (.there (.there (.there (.there (.here _ _))))))) | exact .there (.there (.there (.there (.there (.there (.there (.there (.here _ _)))))))) | exact .there (.there (.there (.there (.there (.there (.there (.there (.there (.here _ _))))))))) | exact .there (.there (.there (.there (.there (.there (.there (.there (.there (.there (.here _ _)))))))))) | exact .there (.there (.there (.there (.there (.there (.there (.there (.there (.there (.there (.here _ _))))))))))) | exact .there (.there (.there (.there (.there (.there (.there (.there (.there (.there (.there (.there (.here _ _)))))))))))) | exact .there (.there (.there (.there (.there (.there (.there (.there (.there (.there (.there (.there (.there (.here _ _)))))))))))))) rfl, H.cell (b := y) (o := 2) (by first | exact .here _ _ | exact .there (.here _ _) | exact .there (.there (.here _ _)) | exact .there (.there (.there (.here _ _))) | exact .there (.there (.there (.there (.here _ _)))) | exact .there (.there (.there (.there (.there (.here _ _))))) | exact .there (.there (.there (.there (.there (.there (.here _ _)))))) | exact .there (.there (.there (.there (.there (.there (.there (.here _ _))))))) | exact .there (.there (.there (.there (.there (.there (.there (.there (.here _ _)))))))) | exact .there (.there (.there (.there (.there (.there (.there (.there (.there (.here _ _))))))))) | exact .there (.there (.there (.there (.there (.there (.there (.there (.there (.there (.here _ _)))))))))) | exact .there (.there (.there (.there (.there (.there (.there (.there (.there (.there (.there (.here _ _))))))))))) | exact .there (.there (.there (.there (.there (.there (.there (.there (.there (.there (.there (.there (.here _ _)))))))))))) | exact .there (.there (.there (.there (.there (.there (.there (.there (.there (.there (.there (.there (.there (.here _ _)))))))))))))) rfl⟩
      clear hK K
      ((try simp only [Act.put]); (try simp only [List.setIfInBounds_toArray]); (try simp only [List.set_cons_succ]); (try simp only [List.set_cons_zero]))
      refine takeL (i := 22) rfl (by kernel_rfl) (by kernel_rfl) (by kernel_rfl) (fun _ _ _ _ h => h) hHeld ?_ (Or.inl ⟨by rfl, ?_⟩) ?_
      rotate_left
      · intro W hW
        (try dsimp only at hW)
        first | (go_simp; done) | (go_simp; with_reducible rfl)
      ((try simp only [Act.put]); (try simp only [List.setIfInBounds_toArray]); (try simp only [List.set_cons_succ]); (try simp only [List.set_cons_zero]))
      refine takeL (i := 23) rfl (by kernel_rfl) (by kernel_rfl) (by kernel_rfl) (fun _ _ _ _ h => h) hHeld ?_ (Or.inl ⟨by rfl, ?_⟩) ?_
      rotate_left
      · intro W hW
        (try dsimp only at hW)
        first | (go_simp; done) | (go_simp; with_reducible rfl)
      ((try simp only [Act.put]); (try simp only [List.setIfInBounds_toArray]); (try simp only [List.set_cons_succ]); (try simp only [List.set_cons_zero]))
      refine callL (i := 24) rfl (by kernel_rfl) (fun K hK => ?_)
      rw [if_pos (by rfl)]
      have f2 := H.free (b := y) (.here _ _) 3
      have c2 := H.cell (b := y) (o := 3) (.here _ _) rfl
      go_simp
      have H' := H.setCell 3 (.slice va (n + 1) vc)
      clear H hHeld f2 c2
      have H := H'
      clear H'
      refine hK.out _ _ ?_ (fun hHeld => ?_)
      · exact ⟨H.cell (b := y) (o := 0) (by first | exact .here _ _ | exact .there (.here _ _) | exact .there (.there (.here _ _)) | exact .there (.there (.there (.here _ _))) | exact .there (.there (.there (.there (.here _ _)))) | exact .there (.there (.there (.there (.there (.here _ _))))) | exact .there (.there (.there (.there (.there (.there (.here _ _)))))) | exact .there (.there (.there (.there (.there (.there (.there (.here _ _))))))) | exact .there (.there (.there (.there (.there (.there (.there (.there (.here _ _)))))))) | exact .there (.there (.there (.there (.there (.there (.there (.there (.there (.here _ _))))))))) | exact .there (.there (.there (.there (.there (.there (.there (.there (.there (.there (.here _ _)))))))))) | exact .there (.there (.there (.there (.there (.there (.there (.there (.there (.there (.there (.here _ _))))))))))) | exact .there (.there (.there (.there (.there (.there (.there (.there (.there (.there (.there (.there (.here _ _)))))))))))) | exact .there (.there (.there (.there (.there (.there (.there (.there (.there (.there (.there (.there (.there (.here _ _)))))))))))))) rfl, H.cell (b := y) (o := 2) (by first | exact .here _ _ | exact .there (.here _ _) | exact .there (.there (.here _ _)) | exact .there (.there (.there (.here _ _))) | exact .there (.there (.there (.there (.here _ _)))) | exact .there (.there (.there (.there (.there (.here _ _))))) | exact .there (.there (.there (.there (.there (.there (.here _ _)))))) | exact .there (.there (.there (.there (.there (.there (.there (.here _ _))))))) | exact .there (.there (.there (.there (.there (.there (.there (.there (.here _ _)))))))) | exact .there (.there (.there (.there (.there (.there (.there (.there (.there (.here _ _))))))))) | exact .there (.there (.there (.there (.there (.there (.there (.there (.there (.there (.here _ _)))))))))) | exact .there (.there (.there (.there (.there (.there (.there (.there (.there (.there (.there (.here _ _))))))))))) | exact .there (.there (.there (.there (.there (.there (.there (.there (.there (.there (.there (.there (.here _ _)))))))))))) | exact .there (.there (.there (.there (.there (.there (.there (.there (.there (.there (.there (.there (.there (.here _ _)))))))))))))) rfl⟩
      clear hK K
      ((try simp only [Act.put]); (try simp only [List.setIfInBounds_toArray]); (try simp only [List.set_cons_succ]); (try simp only [List.set_cons_zero]))
      refine wpAnyH_done (by kernel_rfl) ?_ _
      have hf := Lib.hid (hfin.out _ _ H)
      clear H hHeld hfin
      go_wp2_with fail
      go_ret
      exact ⟨rfl, hf.out⟩
    · rw [if_pos (by rfl)]
      go_simp
      have H' := (H.alloc [.int .u64 k, .int .i64 a, .int .i64 (now + a), .int .i64 0] 73)
      clear H hHeld
      have H := H'
      clear H'
      generalize w4.alloc (.cells [Value.int .u64 k, .int .i64 a, .int .i64 (now + a), .int .i64 0].toArray 73) = w5 at *
      generalize w4.heap.size = vb at *
      refine hK.out _ _ ?_ (fun hHeld => ?_)
      · exact ⟨H.cell (b := y) (o := 0) (by first | exact .here _ _ | exact .there (.here _ _) | exact .there (.there (.here _ _)) | exact .there (.there (.there (.here _ _))) | exact .there (.there (.there (.there (.here _ _)))) | exact .there (.there (.there (.there (.there (.here _ _))))) | exact .there (.there (.there (.there (.there (.there (.here _ _)))))) | exact .there (.there (.there (.there (.there (.there (.there (.here _ _))))))) | exact .there (.there (.there (.there (.there (.there (.there (.there (.here _ _)))))))) | exact .there (.there (.there (.there (.there (.there (.there (.there (.there (.here _ _))))))))) | exact .there (.there (.there (.there (.there (.there (.there (.there (.there (.there (.here _ _)))))))))) | exact .there (.there (.there (.there (.there (.there (.there (.there (.there (.there (.there (.here _ _))))))))))) | exact .there (.there (.there (.there (.there (.there (.there (.there (.there (.there (.there (.there (.here _ _)))))))))))) | exact .there (.there (.there (.there (.there (.there (.there (.there (.there (.there (.there (.there (.there (.here _ _)))))))))))))) rfl, H.cell (b := y) (o := 2) (by first | exact .here _ _ | exact .there (.here _ _) | exact .there (.there (.here _ _)) | exact .there (.there (.there (.here _ _))) | exact .there (.there (.there (.there (.here _ _)))) | exact .there (.there (.there (.there (.there (.here _ _))))) | exact .there (.there (.there (.there (.there (.there (.here _ _)))))) | exact .there (.there (.there (.there (.there (.there (.there (.here _ _))))))) | exact .there (.there (.there (.there (.there (.there (.there (.there (.here _ _)))))))) | exact .there (.there (.there (.there (.there (.there (.there (.there (.there (.here _ _))))))))) | exact .there (.there (.there (.there (.there (.there (.there (.there (.there (.there (.here _ _)))))))))) | exact .there (.there (.there (.there (.there (.there (.there (.there (.there (.there (.there (.here _ _))))))))))) | exact .there (.there (.there (.there (.there (.there (.there (.there (.there (.there (.there (.there (.here _ _)))))))))))) | exact .there (.there (.there (.there (.there (.there (.there (.there (.there (.there (.there (.there (.there (.here _ _)))))))))))))) rfl⟩
      clear hK K
      ((try simp only [Act.put]); (try simp only [List.setIfInBounds_toArray]); (try simp only [List.set_cons_succ]); (try simp only [List.set_cons_zero]))
      refine callL (i := 4) rfl (by kernel_rfl) (fun K hK => ?_)
      rw [if_pos (by rfl)]
      have c2 := H.cell (b := y) (o := 3) (by first | exact .here _ _ | exact .there (.here _ _) | exact .there (.there (.here _ _)) | exact .there (.there (.there (.here _ _))) | exact .there (.there (.there (.there (.here _ _)))) | exact .there (.there (.there (.there (.there (.here _ _))))) | exact .there (.there (.there (.there (.there (.there (.here _ _)))))) | exact .there (.there (.there (.there (.there (.there (.there (.here _ _))))))) | exact .there (.there (.there (.there (.there (.there (.there (.there (.here _ _)))))))) | exact .there (.there (.there (.there (.there (.there (.there (.there (.there (.here _ _))))))))) | exact .there (.there (.there (.there (.there (.there (.there (.there (.there (.there (.here _ _)))))))))) | exact .there (.there (.there (.there (.there (.there (.there (.there (.there (.there (.there (.here _ _))))))))))) | exact .there (.there (.there (.there (.there (.there (.there (.there (.there (.there (.there (.there (.here _ _)))))))))))) | exact .there (.there (.there (.there (.there (.there (.there (.there (.there (.there (.there (.there (.there (.here _ _)))))))))))))) rfl
      go_simp
      clear c2 hHeld
      refine hK.out _ _ ?_ (fun hHeld => ?_)
      · exact ⟨H.cell (b := y) (o := 0) (by first | exact .here _ _ | exact .there (.here _ _) | exact .there (.there (.here _ _)) | exact .there (.there (.there (.here _ _))) | exact .there (.there (.there (.there (.here _ _)))) | exact .there (.there (.there (.there (.there (.here _ _))))) | exact .there (.there (.there (.there (.there (.there (.here _ _)))))) | exact .there (.there (.there (.there (.there (.there (.there (.here _ _))))))) | exact .there (.there (.there (.there (.there (.there (.there (.there (.here _ _)))))))) | exact .there (.there (.there (.there (.there (.there (.there (.there (.there (.here _ _))))))))) | exact .there (.there (.there (.there (.there (.there (.there (.there (.there (.there (.here _ _)))))))))) | exact .there (.there (.there (.there (.there (.there (.there (.there (.there (.there (.there (.here _ _))))))))))) | exact .there (.there (.there (.there (.there (.there (.there (.there (.there (.there (.there (.there (.here _ _)))))))))))) | exact .there (.there (.there (.there (.there (.there (.there (.there (.there (.there (.there (.there (.there (.here _ _)))))))))))))) rfl, H.cell (b := y) (o := 2) (by first | exact .here _ _ | exact .there (.here _ _) | exact .there (.there (.here _ _)) | exact .there (.there (.there (.here _ _))) | exact .there (.there (.there (.there (.here _ _)))) | exact .there (.there (.there (.there (.there (.here _ _))))) | exact .there (.there (.there (.there (.there (.there (.here _ _)))))) | exact .there (.there (.there (.there (.there (.there (.there (.here _ _))))))) | exact .there (.there (.there (.there (.there (.there (.there (.there (.here _ _)))))))) | exact .there (.there (.there (.there (.there (.there (.there (.there (.there (.here _ _))))))))) | exact .there (.there (.there (.there (.there (.there (.there (.there (.there (.there (.here _ _)))))))))) | exact .there (.there (.there (.there (.there (.there (.there (.there (.there (.there (.there (.here _ _))))))))))) | exact .there (.there (.there (.there (.there (.there (.there (.there (.there (.there (.there (.there (.here _ _)))))))))))) | exact .there (.there (.there (.there (.there (.there (.there (.there (.there (.there (.there (.there (.there (.here _ _)))))))))))))) rfl⟩
      clear hK K
      ((try simp only [Act.put]); (try simp only [List.setIfInBounds_toArray]); (try simp only [List.set_cons_succ]); (try simp only [List.set_cons_zero]))
      refine callL (i := 21) rfl (by kernel_rfl) (fun K hK => ?_)
      rw [if_pos (by rfl)]
      have hrd := rd_front H
      obtain ⟨v', w7, hrun, H7, -⟩ := SL.appended (P := Try.prog) (ty := 69) elemO (H.pull (.there (.there (.here _ _)))) (m := 1) (c := 1) (ys := [.int .u64 k, .int .i64 a, .int .i64 (now + a), .int .i64 0]) rfl hrd (by simp [Value.oneCell']) (by simp only [maxLen]; omega) (by omega) (fun h => by cases h)
      obtain ⟨va, vc, rfl, -⟩ := OwnK.slice H7.head
      refine Lib.wp_append_run _ _ _ _ _ rfl (.slice sa n sc) (.slice (some ⟨vb, 0, none⟩) 1 1) rfl rfl _ _ hrun ?_
      clear H hHeld hrd hrun
      have H := H7.re (.step (.there (.there (.here _ _))) (.step (.here _ _) (.drop (.same _))))
      clear H7
      refine hK.out _ _ ?_ (fun hHeld => ?_)
      · exact ⟨H.cell (b := y) (o := 0) (by first | exact .here _ _ | exact .there (.here _ _) | exact .there (.there (.here _ _)) | exact .there (.there (.there (.here _ _))) | exact .there (.there (.there (.there (.here _ _)))) | exact .there (.there (.there (.there (.there (.here _ _))))) | exact .there (.there (.there (.there (.there (.there (.here _ _)))))) | exact .there (.there (.there (.there (.there (.there (.there (.here _ _))))))) | exact .there (.there (.there (.there (.there (.there (.there (.there (.here _ _)))))))) | exact .there (.there (.there (.there (.there (.there (.there (.there (.there (.here _ _))))))))) | exact .there (.there (.there (.there (.there (.there (.there (.there (.there (.there (.here _ _)))))))))) | exact .there (.there (.there (.there (.there (.there (.there (.there (.there (.there (.there (.here _ _))))))))))) | exact .there (.there (.there (.there (.there (.there (.there (.there (.there (.there (.there (.there (.here _ _)))))))))))) | exact .there (.there (.there (.there (.there (.there (.there (.there (.there (.there (.there (.there (.there (.here _ _)))))))))))))) rfl, H.cell (b := y) (o := 2) (by first | exact .here _ _ | exact .there (.here _ _) | exact .there (.there (.here _ _)) | exact .there (.there (.there (.here _ _))) | exact .there (.there (.there (.there (.here _ _)))) | exact .there (.there (.there (.there (.there (.here _ _))))) | exact .there (.there (.there (.there (.there (.there (.here _ _)))))) | exact .there (.there (.there (.there (.there (.there (.there (.here _ _))))))) | exact .there (.there (.there (.there (.there (.there (.there (.there (.here _ _)))))))) | exact .there (.there (.there (.there (.there (.there (.there (.there (.there (.here _ _))))))))) | exact .there (.there (.there (.there (.there (.there (.there (.there (.there (.there (.here _ _)))))))))) | exact .there (.there (.there (.there (.there (.there (.there (.there (.there (.there (.there (.here _ _))))))))))) | exact .there (.there (.there (.there (.there (.there (.there (.there (.there (.there (.there (.there (.here _ _)))))))))))) | exact .there (.there (.there (.there (.there (.there (.there (.there (.there (.there (.there (.there (.there (.here _ _)))))))))))))) rfl⟩
      clear hK K
      ((try simp only [Act.put]); (try simp only [List.setIfInBounds_toArray]); (try simp only [List.set_cons_succ]); (try simp only [List.set_cons_zero]))
      refine takeL (i := 22) rfl (by kernel_rfl) (by kernel_rfl) (by kernel_rfl) (fun _ _ _ _ h => h) hHeld ?_ (Or.inl ⟨by rfl, ?_⟩) ?_
      rotate_left
      · intro W hW
        (try dsimp only at hW)
        first | (go_simp; done) | (go_simp; with_reducible rfl)
      ((try simp only [Act.put]); (try simp only [List.setIfInBounds_toArray]); (try simp only [List.set_cons_succ]); (try simp only [List.set_cons_zero]))
      refine takeL (i := 23) rfl (by kernel_rfl) (by kernel_rfl) (by kernel_rfl) (fun _ _ _ _ h => h) hHeld ?_ (Or.inl ⟨by rfl, ?_⟩) ?_
      rotate_left
      · intro W hW
        (try dsimp only at hW)
        first | (go_simp; done) | (go_simp; with_reducible rfl)
      ((try simp only [Act.put]); (try simp only [List.setIfInBounds_toArray]); (try simp only [List.set_cons_succ]); (try simp only [List.set_cons_zero]))
      refine callL (i := 24) rfl (by kernel_rfl) (fun K hK => ?_)
      rw [if_pos (by rfl)]
      have f2 := H.free (b := y) (.here _ _) 3
      have c2 := H.cell (b := y) (o := 3) (.here _ _) rfl
      go_simp
      have H' := H.setCell 3 (.slice va (n + 1) vc)
      clear H hHeld f2 c2
      have H := H'
      clear H'
      refine hK.out _ _ ?_ (fun hHeld => ?_)
      · exact ⟨H.cell (b := y) (o := 0) (by first | exact .here _ _ | exact .there (.here _ _) | exact .there (.there (.here _ _)) | exact .there (.there (.there (.here _ _))) | exact .there (.there (.there (.there (.here _ _)))) | exact .there (.there (.there (.there (.there (.here _ _))))) | exact .there (.there (.there (.there (.there (.there (.here _ _)))))) | exact .there (.there (.there (.there (.there (.there (.there (.here _ _))))))) | exact .there (.there (.there (.there (.there (.there (.there (.there (.here _ _)))))))) | exact .there (.there (.there (.there (.there (.there (.there (.there (.there (.here _ _))))))))) | exact .there (.there (.there (.there (.there (.there (.there (.there (.there (.there (.here _ _)))))))))) | exact .there (.there (.there (.there (.there (.there (.there (.there (.there (.there (.there (.here _ _))))))))))) | exact .there (.there (.there (.there (.there (.there (.there (.there (.there (.there (.there (.there (.here _ _)))))))))))) | exact .there (.there (.there (.there (.there (.there (.there (.there (.there (.there (.there (.there (.there (.here _ _)))))))))))))) rfl, H.cell (b := y) (o := 2) (by first | exact .here _ _ | exact .there (.here _ _) | exact .there (.there (.here _ _)) | exact .there (.there (.there (.here _ _))) | exact .there (.there (.there (.there (.here _ _)))) | exact .there (.there (.there (.there (.there (.here _ _))))) | exact .there (.there (.there (.there (.there (.there (.here _ _)))))) | exact .there (.there (.there (.there (.there (.there (.there (.here _ _))))))) | exact .there (.there (.there (.there (.there (.there (.there (.there (.here _ _)))))))) | exact .there (.there (.there (.there (.there (.there (.there (.there (.there (.here _ _))))))))) | exact .there (.there (.there (.there (.there (.there (.there (.there (.there (.there (.here _ _)))))))))) | exact .there (.there (.there (.there (.there (.there (.there (.there (.there (.there (.there (.here _ _))))))))))) | exact .there (.there (.there (.there (.there (.there (.there (.there (.there (.there (.there (.there (.here _ _)))))))))))) | exact .there (.there (.there (.there (.there (.there (.there (.there (.there (.there (.there (.there (.there (.here _ _)))))))))))))) rfl⟩
      clear hK K
      ((try simp only [Act.put]); (try simp only [List.setIfInBounds_toArray]); (try simp only [List.set_cons_succ]); (try simp only [List.set_cons_zero]))
      refine wpAnyH_done (by kernel_rfl) ?_ _
      have hf := Lib.hid (hfin.out _ _ H)
      clear H hHeld hfin
      go_wp2_with fail
      go_ret
      exact ⟨rfl, hf.out⟩
end
end Go.Proofs.Ytcjmkpphohkofaa

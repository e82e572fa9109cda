/- slices.Insert at alarms. -/
import Derived.Test.YtcjmkpphohkofaaAl
import Derived.Laws.Externs
namespace Go.Proofs.Ytcjmkpphohkofaa
open Go.RowKit Go.Lib Go.Sort Go.Shelf
set_option linter.unusedVariables false

theorem sizeA : ∀ w, (Go.sizeOf 59).run Try.prog w = .ok 4 w := fun w => by
  obtain ⟨i, hi, -, hsz, -⟩ := info_parts elemA.info
  simp [sizeOf, typeInfo, hi, hsz]
theorem nmin {a b c : Nat} (h : min a b = c) : Nat.min a b = c := h
theorem shape_blk {w : World} {L : List Pc} {b : Nat} {cs : List Value} {t : TypeId} (H : SL w (.blk b cs t :: L)) : w.shape? b = some (t, cs.length) := by
  have h : w.heap[b]? = some (.cells cs.toArray t) := H.head
  simp [World.shape?, h]
theorem alC_insert {l : List Al} {i : Nat} (hi : i ≤ l.length) (x : Al) : alC (l.take i ++ x :: l.drop i) = (alC l).take (i * 4) ++ (x.c ++ (alC l).drop (i * 4)) := by
  rw [alC_append, alC_take, alC_drop]
  rfl

set_option maxHeartbeats 4000000 in
set_option maxRecDepth 1000000 in
theorem insert_c {v : Value} {l : List Al} {w : World} {L : List Pc} {b : Nat} (x : Al) (H : SL w (.own 59 4 v l.length (alC l) :: .blk b x.c 59 :: L)) {i : Nat} (hi : i ≤ l.length) (hl : l.length ≤ 100000) :
    Calls Try.prog 28 #[v, .int .i64 i, .slice (some ⟨b, 0, none⟩) 1 1] w fun e w' => ∃ v', e = .returned v' ∧ SL w' (.own 59 4 v' (l.length + 1) (alC (l.take i ++ x :: l.drop i)) :: L) := by
  have mixed : Try.prog.follows Departure.mixedOrders = true := by kernel_rfl
  obtain ⟨n, hn⟩ : ∃ n, l.length = n := ⟨_, rfl⟩
  rw [hn] at H hi hl ⊢
  have hown : OwnK w 0 59 4 v n (alC l) := H.head
  have hxl : x.c.length = 4 := rfl
  have hx1 : ∀ u ∈ x.c, u.oneCell' = true := by
    intro u hu
    simp only [Al.c, List.mem_cons, List.not_mem_nil, or_false] at hu
    rcases hu with rfl | rfl | rfl | rfl <;> rfl
  have hone : ((1 : Nat) : Int) = 1 := rfl
  by_cases heq : n = i
  · subst heq
    have hrd : Rd w (some ⟨b, 0, none⟩) x.c.length (fun j => x.c.getD j undef) := fun j hj => ⟨b, 0, rfl, by
      rw [Nat.zero_add]
      refine H.tail.cell (.here _ _) ?_
      show _ = some (x.c.getD j undef)
      rw [List.getD_eq_getElem?_getD, List.getElem?_eq_getElem hj]; rfl⟩
    obtain ⟨a, cap, rfl, h1, h2, h3, -, -⟩ := hown.slice
    have happ := Lib.hid (fun ty => SL.appended (P := Try.prog) (ty := ty) elemA H (m := 1) (c := 1) (ys := x.c) rfl hrd hx1 (by simp only [maxLen]; omega) (by omega) (fun h => by cases h))
    have he : Hid (alC (l.take n ++ x :: l.drop n) = alC l ++ x.c) := Lib.hid (by rw [← hn, List.take_length, List.drop_length, alC_append]; simp [alC])
    rw [he.out]
    clear H hown hn hrd he
    go_enter Try.func28, Try.ntmps28
    go_wp2_with (at_builtin; (obtain ⟨v', w', hr, H', -⟩ := happ.out 52); refine Lib.wpList_append_run _ rfl _ _ _ _ rfl _ _ rfl rfl _ _ hr ?_)
    all_goals
      go_ret
      exact ⟨_, rfl, H'.re (.step (.here _ _) (.drop (.same _)))⟩
  · have hlt : i < n := by omega
    rcases hown.form with ⟨-, e, -⟩ | ⟨g, cap, rfl, -, -, hnc, hcm, -, -, -⟩
    · omega
    obtain ⟨cs, hcs, -, -, htk, HB⟩ := H.toBlk
    have hcl : n * 4 ≤ cs.length := by rw [hcs]; exact Nat.mul_le_mul_right 4 hnc
    obtain ⟨vs, hvs⟩ : ∃ vs, vs = alC (l.drop i) := ⟨_, rfl⟩
    have hvl : vs.length = (n - i) * 4 := by rw [hvs, alC_length, List.length_drop, hn]
    have hv1 : ∀ u ∈ vs, u.oneCell' = true := by rw [hvs]; exact alC_one _
    have hpart : (cs.drop (i * 4)).take ((n - i) * 4) = vs := by
      rw [hvs, ← alC_drop, ← htk, List.drop_take]
      congr 1
      omega
    have e1 : cs.take (i * 4) = alC (l.take i) := by rw [← alC_take, ← htk, List.take_take, Nat.min_eq_left (by omega)]
    have hal : alC (l.take i ++ x :: l.drop i) = cs.take (i * 4) ++ (x.c ++ vs) := by rw [e1, alC_append, hvs]; rfl
    rw [hal]
    have hc63 : cap ≤ 9223372036854775807 := by simpa [maxLen] using hcm
    by_cases hroom : n + 1 ≤ cap
    · have hgb : ¬ b = g := (HB.ne (.here _ _) (.here _ _)).2
      have hfz := HB.tail.free (b := b) (.here _ _)
      have hov : ∀ lb cb, (callFunc 47 #[.slice (some ⟨b, 0, none⟩) 1 1, .slice (some ⟨g, (i + 1) * 4, none⟩) lb cb]).run Try.prog w = .ok (.value (.bool false)) w := fun lb cb => by
        rw [run_callFunc_extern Try.func47 (by kernel_rfl) (by kernel_rfl) (by kernel_rfl) (e := Extern.SlicesOverlaps.overlaps #[52, 52] #[4]) (by kernel_rfl),
          Lib.run_overlaps_apart w 52 4 59 elemA.under 4 sizeA ⟨b, 0, none⟩ ⟨g, (i + 1) * 4, none⟩ 1 1 lb cb hgb _ _ _ _ (shape_blk HB.tail) (shape_blk HB) (by omega) (hfz _) (hfz _)]
        rfl
      have hfit : (i + 1) * 4 + vs.length ≤ cs.length := by rw [hvl, hcs]; omega
      have hcp1 := fun ty dc sc => run_copyK (P := Try.prog) (ty := ty) elemA 52 52 elemA.under HB.drew ((i + 1) * 4) (n - i) dc ⟨g, i * 4, none⟩ (n + 1 - i) sc vs
        (by rw [hvl, show Nat.min (n + 1 - i) (n - i) = n - i from nmin (by omega)])
        (fun t u hu => by rw [← hpart] at hu; exact blk_part HB.drew (i * 4) ((n - i) * 4) (by omega) t u hu) hfit hv1
      obtain ⟨W1, hW1⟩ : ∃ W1, w.drew.setCells g ((i + 1) * 4) vs = W1 := ⟨_, rfl⟩
      rw [hW1] at hcp1
      have HB1 := (hcp1 0 0 0).2
      have hl1 := splice_length cs _ vs hfit
      have hfit2 : i * 4 + x.c.length ≤ (splice cs ((i + 1) * 4) vs).length := by rw [hl1, hxl]; omega
      have hcp2 := fun ty dc => run_copyK (P := Try.prog) (ty := ty) elemA 52 52 elemA.under HB1 (i * 4) (n + 1 - i) dc ⟨b, 0, none⟩ 1 1 x.c
        (by rw [hxl, show Nat.min 1 (n + 1 - i) = 1 from nmin (by omega)])
        (fun t u hu => by rw [Addr.add_lit, Nat.zero_add]; exact HB1.tail.cell (.here _ _) hu) hfit2 hx1
      have HB2 := (hcp2 0 0).2
      generalize W1.setCells g (i * 4) x.c = W2 at hcp2 HB2
      have hfin : Hid (SL W2 (.own 59 4 (.slice (some ⟨g, 0, none⟩) (n + 1) cap) (n + 1) (cs.take (i * 4) ++ (x.c ++ vs)) :: L)) := Lib.hid (by
        have h := HB2.toOwn (k := 4) (n := n + 1) (cap := cap) (by rw [splice_length _ _ _ hfit2, hl1, hcs]) hroom hcm
        have e : (splice (splice cs ((i + 1) * 4) vs) (i * 4) x.c).take ((n + 1) * 4) = cs.take (i * 4) ++ (x.c ++ vs) := by
          have h1 : (splice cs ((i + 1) * 4) vs).take (i * 4) = cs.take (i * 4) := by
            unfold splice
            rw [List.append_assoc, List.take_append_of_le_length (by rw [List.length_take]; omega), List.take_take, Nat.min_eq_left (by omega)]
          have h2 : (splice cs ((i + 1) * 4) vs).drop (i * 4 + x.c.length) = vs ++ cs.drop ((i + 1) * 4 + vs.length) := by
            unfold splice
            rw [hxl, List.append_assoc, show i * 4 + 4 = (cs.take ((i + 1) * 4)).length by rw [List.length_take]; omega, List.drop_left]
          generalize splice cs ((i + 1) * 4) vs = S at h1 h2
          unfold splice
          rw [h1, h2, List.append_assoc, ← List.append_assoc x.c, ← List.append_assoc (cs.take (i * 4))]
          have hl2 : (cs.take (i * 4) ++ (x.c ++ vs)).length = (n + 1) * 4 := by rw [List.length_append, List.length_append, List.length_take, hxl, hvl]; omega
          rw [← hl2, List.take_left]
        rw [e] at h
        exact h.re (.step (.here _ _) (.drop (.same _))))
      have hcp1' := Lib.hid (fun ty dc sc => (hcp1 ty dc sc).1)
      have hcp2' := Lib.hid (fun ty dc => (hcp2 ty dc).1)
      have hb2 : ¬ cap = i + 1 := by omega
      have hb4 : ¬ cap = i := by omega
      have hov' := Lib.hid hov
      have hw1 : IntKind.i64.wrap ((i : Int) + 1) = (i : Int) + 1 := by rw [IntKind.wrap_i64]; omega
      have hb1 : (0 : Int) ≤ (i : Int) + 1 := by omega
      have hb3 : (i : Int) ≤ (n : Int) + 1 := by omega
      have hb5 : (i : Int) + 1 ≤ (n : Int) + 1 := by omega
      have htn : ((i : Int) + 1).toNat = i + 1 := by omega
      clear hcp1 hcp2 HB2 HB1 hfit2 hfit hl1 hW1 hfz hgb hov hal e1 hpart hv1 hvl hvs hcl htk hcs HB H hown hn hx1 hxl
      go_enter Try.func28, Try.ntmps28
      go_wp2_with (simp only [hov'.out])
      go_region_law_o (refine step_copy_runI rfl _ _ 52 52 rfl (.slice (some ⟨g, (i + 1) * 4, none⟩) (n - i) (cap - (i + 1))) (.slice (some ⟨g, i * 4, none⟩) (n + 1 - i) (cap - i)) (by simp [Act.eval, Act.put]) (by simp [Act.eval, Act.put]) (hcp1'.out _ _ _) ?_)
      go_wp2_with (refine wpList_copy_runI _ rfl _ _ 52 52 rfl (.slice (some ⟨g, i * 4, none⟩) (n + 1 - i) (cap - i)) (.slice (some ⟨b, 0, none⟩) 1 1) rfl rfl (hcp2'.out _ _) ?_)
      go_ret
      exact ⟨_, rfl, hfin.out⟩
    · have hbl : ∀ u ∈ cs.take (i * 4), u.oneCell' = true := by rw [e1]; exact alC_one _
      have hol : (cs.take (i * 4)).length = i * 4 := by rw [List.length_take]; omega
      have holds : ∀ t u, (cs.take (i * 4))[t]? = some u → w.cell? ((⟨g, 0, none⟩ : Addr).add t) = some u := fun t u hu => by
        have := blk_part HB 0 (i * 4) (by omega) t u (by rw [List.drop_zero]; exact hu)
        exact this
      have hzr := fun ty => run_zerosK (P := Try.prog) (ty := ty) elemA (tn := 3) (kn := .i64) Try.underlying3 ⟨g, 0, none⟩ i cap _ hol holds (n + 1 - i) (by omega) (by simp only [maxLen]; omega) (by omega)
      obtain ⟨cap', hz1, hz2, hz3⟩ := hzr 52
      obtain ⟨hh, hhh⟩ : ∃ hh, w.heap.size = hh := ⟨_, rfl⟩
      have HN := HB.drew.alloc (cs.take (i * 4) ++ (Builtin.zeroCells zAl.cells (cap' - i)).toList) 59
      obtain ⟨ns, hns⟩ : ∃ ns, cs.take (i * 4) ++ (Builtin.zeroCells zAl.cells (cap' - i)).toList = ns := ⟨_, rfl⟩
      have hnl : ns.length = cap' * 4 := by rw [← hns, List.length_append, hol, Array.length_toList, size_zeroCells]; show i * 4 + (cap' - i) * 4 = _; omega
      have hnt : ns.take (i * 4) = cs.take (i * 4) := by rw [← hns, List.take_append_of_le_length (by omega), List.take_take, Nat.min_self]
      rw [hns] at HN hz1
      have hds : w.drew.heap.size = hh := hhh
      rw [hds] at HN
      rw [hhh] at hz1
      generalize w.drew.alloc (.cells ns.toArray 59) = W0 at HN hz1
      have hfit1 : i * 4 + x.c.length ≤ ns.length := by rw [hnl, hxl]; omega
      have hcp2 := fun ty dc => run_copyK (P := Try.prog) (ty := ty) elemA 52 52 elemA.under HN (i * 4) (n + 1 - i) dc ⟨b, 0, none⟩ 1 1 x.c
        (by rw [hxl, show Nat.min 1 (n + 1 - i) = 1 from nmin (by omega)])
        (fun t u hu => by rw [Addr.add_lit, Nat.zero_add]; exact HN.tail.tail.cell (.here _ _) hu) hfit1 hx1
      have HN1 := (hcp2 0 0).2
      have hl1 := splice_length ns _ x.c hfit1
      generalize W0.setCells hh (i * 4) x.c = W1 at hcp2 HN1
      have hfit2 : (i + 1) * 4 + vs.length ≤ (splice ns (i * 4) x.c).length := by rw [hl1, hnl, hvl]; omega
      have hcp1 := fun ty dc sc => run_copyK (P := Try.prog) (ty := ty) elemA 52 52 elemA.under HN1.drew ((i + 1) * 4) (n - i) dc ⟨g, i * 4, none⟩ (n - i) sc vs
        (by rw [hvl, show Nat.min (n - i) (n - i) = n - i from nmin (by omega)])
        (fun t u hu => by rw [← hpart] at hu; exact blk_part HN1.drew.tail (i * 4) ((n - i) * 4) (by omega) t u hu) hfit2 hv1
      have HN2 := (hcp1 0 0 0).2
      generalize W1.drew.setCells hh ((i + 1) * 4) vs = W2 at hcp1 HN2
      have hfin : Hid (SL W2 (.own 59 4 (.slice (some ⟨hh, 0, none⟩) (n + 1) cap') (n + 1) (cs.take (i * 4) ++ (x.c ++ vs)) :: L)) := Lib.hid (by
        have h := HN2.toOwn (k := 4) (n := n + 1) (cap := cap') (by rw [splice_length _ _ _ hfit2, hl1, hnl]) (by omega) hz3
        have e : (splice (splice ns (i * 4) x.c) ((i + 1) * 4) vs).take ((n + 1) * 4) = cs.take (i * 4) ++ (x.c ++ vs) := by
          have h1 : (splice ns (i * 4) x.c).take ((i + 1) * 4) = cs.take (i * 4) ++ x.c := by
            unfold splice
            have h2 : (ns.take (i * 4) ++ x.c).length = (i + 1) * 4 := by rw [List.length_append, List.length_take, hxl]; omega
            rw [← h2, List.take_left, hnt]
          generalize splice ns (i * 4) x.c = S at h1
          unfold splice
          rw [h1, List.append_assoc, List.append_assoc, ← List.append_assoc x.c, ← List.append_assoc (cs.take (i * 4))]
          have hl2 : (cs.take (i * 4) ++ (x.c ++ vs)).length = (n + 1) * 4 := by rw [List.length_append, List.length_append, List.length_take, hxl, hvl]; omega
          rw [← hl2, List.take_left]
        rw [e] at h
        exact h.re (.step (.here _ _) (.drop (.drop (.same _)))))
      have hcp1' := Lib.hid (fun ty dc sc => (hcp1 ty dc sc).1)
      have hcp2' := Lib.hid (fun ty dc => (hcp2 ty dc).1)
      have hb2 : ¬ cap = i + 1 ∨ cap = i + 1 := Decidable.not_or_of_imp id
      have hb4 : ¬ cap = i := by omega
      have hb5 : ¬ cap' = i := by omega
      have hb6 : ¬ cap' = i + 1 := by omega
      have hz1' := Lib.hid hz1
      have hw1 : IntKind.i64.wrap ((i : Int) + 1) = (i : Int) + 1 := by rw [IntKind.wrap_i64]; omega
      have hb1 : (0 : Int) ≤ (i : Int) + 1 := by omega
      have hb3 : (i : Int) ≤ (n : Int) + 1 := by omega
      have hb7 : (i : Int) + 1 ≤ (n : Int) + 1 := by omega
      have htn : ((i : Int) + 1).toNat = i + 1 := by omega
      have hcast : ((n + 1 - i : Nat) : Int) = (n : Int) + 1 - (i : Int) := by omega
      rw [hcast] at hz1'
      have hin : i + (n + 1 - i) = n + 1 := by omega
      rw [hin] at hz1'
      clear hcp1 hcp2 HN2 HN1 hfit2 hfit1 hl1 hnt hnl hns HN hz1 hzr holds hol hbl hhh hds hal e1 hpart hv1 hvl hvs hcl htk hcs HB H hown hn hx1 hxl
      go_enter Try.func28, Try.ntmps28
      go_wp2_with (first | (at_builtin; refine Lib.wpList_append_run _ rfl _ _ _ _ rfl _ _ rfl rfl _ _ hz1'.out ?_) | refine wpList_copy_runI _ rfl _ _ 52 52 rfl (.slice (some ⟨hh, i * 4, none⟩) (n + 1 - i) (cap' - i)) (.slice (some ⟨b, 0, none⟩) 1 1) rfl rfl (hcp2'.out _ _) ?_)
      go_region_law_o (refine step_copy_runI rfl _ _ 52 52 rfl (.slice (some ⟨hh, (i + 1) * 4, none⟩) (n - i) (cap' - (i + 1))) (.slice (some ⟨g, i * 4, none⟩) (n - i) (cap - i)) (by simp [Act.eval, Act.put]) (by simp [Act.eval, Act.put]) (hcp1'.out _ _ _) ?_)
      go_wp2_with fail
      go_ret
      exact ⟨_, rfl, hfin.out⟩
end Go.Proofs.Ytcjmkpphohkofaa

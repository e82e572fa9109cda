/- Told. -/
import Derived.Test.YtkoajbmomipjkaaDoorMany
import Derived.Test.YtkoajbmomipjkaaDoorUnion
namespace Go.Proofs.YtkoajbmomipjkaaDoor
open Go.RowKit
set_option linter.unusedVariables false
attribute [local go_sem] Oper.semAt_some

theorem told_no {p : Nat} {N m N2 m2 : Int} {L : List Pc} {w : World} (H : SL w (winB p true N m :: L)) (h0 : 0 ≤ m2) (h1 : m2 ≤ 18446744073709551615) (hq : mayV N2 m2 = false) :
    Calls Tryd.prog 19 #[.pointer (some ⟨p, 0, none⟩), .int .u64 N2, .int .u64 m2] w fun e w' => e = .returned (.tuple #[.int .i64 0, .int .i64 190]) ∧ SL w' (winB p true N m :: L) := by
  have hn := Lib.hid (none_c H)
  have hl := Lib.hid (fun V : World => may_c N2 m2 h0 h1 V)
  rw [hq] at hl
  have H1 := Lib.hid ((H.alloc [.int .u64 N, .int .u64 m] 58).alloc [.int .u64 N2, .int .u64 m2] 58)
  obtain ⟨c0, c1, c2, hfz⟩ := win_cells H
  clear H h0 h1 hq
  go_enter Tryd.func19, Tryd.ntmps19
  go_wp2_with fail
  refine hn.out.mono ?_
  rintro e w' ⟨rfl, rfl⟩
  clear hn
  go_wp2_with fail
  refine (hl.out _).mono ?_
  rintro e w3 ⟨rfl, k3⟩
  have H3 := Lib.hid (H1.out.quiet k3)
  clear k3 H1 hl c0 c1 c2 hfz
  go_wp2_with fail
  go_ret2
  exact ⟨rfl, H3.out.re (.drop (.drop (.same _)))⟩

theorem foldAt {T N M : Nat} {x y : BitVec 64} {l : List Nat} (hx : Good T N x) (hy : Good T M y) (hl : Chain x l) (hNM : N ≤ M) (i : Nat) :
    Good T (foldW N (l.take i) (M, y)).1 (foldW N (l.take i) (M, y)).2 ∧ M ≤ (foldW N (l.take i) (M, y)).1 := by
  obtain ⟨a, b, c⟩ := foldW_good (l.take i) (s := (M, y)) (fun j hj => hx.chain hl j (List.mem_of_mem_take hj)) hNM hy
  exact ⟨a, b⟩

set_option maxHeartbeats 8000000 in
theorem told_yes {p N N2 : Nat} {x x2 : BitVec 64} {S : Nat → Prop} (hS : ¬ S 0) (W0 : World) {w : World} (ht : Tab W0) (H : SL w (winB p true N (U x) :: [.old W0 S])) (hg : Good 4611686018427387904 N x) (hg2 : Good 4611686018427387904 N2 x2) (hq : mayV N2 (U x2) = true) :
    Calls Tryd.prog 19 #[.pointer (some ⟨p, 0, none⟩), .int .u64 N2, .int .u64 (U x2)] w fun e w' =>
      e = .returned (.tuple #[.int .i64 (wrap64 (manyV (unionM N x N2 x2).1 (unionM N x N2 x2).2 - manyV N x)), .int .i64 0]) ∧ SL w' (winB p true ((unionM N x N2 x2).1 : Nat) (U (unionM N x N2 x2).2) :: [.old W0 S]) := by
  have hn := Lib.hid (none_c H)
  have hl := Lib.hid (fun V : World => may_c N2 (U x2) (U_nn x2) (U_lt64 x2) V)
  rw [hq] at hl
  have H1 := H.alloc [.int .u64 N, .int .u64 (U x)] 58
  have H2 := Lib.hid (H1.alloc [.int .u64 N2, .int .u64 (U x2)] 58)
  obtain ⟨c0, c1, c2, hfz⟩ := win_cells H
  clear H H1 hq
  refine calls_of_marks Tryd.func19 rfl ?_
  simp only [Tryd.ntmps19, List.size_toArray, List.length_cons, List.length_nil, Nat.reduceAdd, Nat.reduceSub, Array.replicate_succ, Array.replicate_zero, List.push_toArray, List.append_toArray, List.nil_append, List.cons_append]
  gi_wp2_with (first | refine wpIn_label ?_ | refine scope_in ?_)
  refine ⟨trivial, rfl, (calls_in hn.out).mono ?_⟩
  rintro e w' ⟨rfl, rfl⟩
  clear hn
  gi_wp2_with (first | refine wpIn_label ?_ | refine scope_in ?_)
  refine ⟨trivial, rfl, (calls_in (hl.out _)).mono ?_⟩
  rintro e w3 ⟨rfl, k3⟩
  have h3 := H2.out.quiet k3
  have hsz : (w.alloc (.cells [Value.int .u64 N, .int .u64 (U x)].toArray 58)).heap.size = w.heap.size + 1 := by simp
  rw [hsz] at h3
  clear k3 H2 hl c0 c1 c2 hfz hsz
  generalize w.heap.size + 1 = bf at *
  generalize w.heap.size = bl at *
  have c0 := h3.cell (o := 0) (.here _ _) rfl
  have c1 := h3.cell (o := 1) (.here _ _) rfl
  have c2 := h3.cell (o := 0) (.there (.here _ _)) rfl
  have c3 := h3.cell (o := 1) (.there (.here _ _)) rfl
  have f0 := fun o => h3.free (.here _ _) o
  have f1 := fun o => h3.free (.there (.here _ _)) o
  obtain ⟨ne1, ne2⟩ := h3.ne (.here _ _) (.here _ _)
  have H3 := Lib.hid h3
  clear h3
  have H3s := H3.out
  have hsp : ∃ (Nl : Nat) (xl : BitVec 64) (Nf : Nat) (xf : BitVec 64), Good 4611686018427387904 Nl xl ∧ Good 4611686018427387904 Nf xf ∧ Nl ≤ Nf ∧ unionM N x N2 x2 = foldW Nl (chainL xl) (Nf, xf) ∧
      ((N2 < N ∧ Nl = N2 ∧ xl = x2 ∧ Nf = N ∧ xf = x) ∨ (¬ N2 < N ∧ Nl = N ∧ xl = x ∧ Nf = N2 ∧ xf = x2)) := by
    by_cases h : N2 < N
    · exact ⟨N2, x2, N, x, hg2, hg, by omega, by unfold unionM; rw [if_pos h], .inl ⟨h, rfl, rfl, rfl, rfl⟩⟩
    · exact ⟨N, x, N2, x2, hg, hg2, by omega, by unfold unionM; rw [if_neg h], .inr ⟨h, rfl, rfl, rfl, rfl⟩⟩
  obtain ⟨Nl, xl, Nf, xf, gl, gf, hle, hu, hc⟩ := hsp
  have hu' := Lib.hid hu
  have hl := chainL_spec xl
  have hat := Lib.hid (foldAt gl gf hl hle)
  have hch := Lib.hid (gl.chain hl)
  have hNl := gl.next
  have hgv := Lib.hid (fun B => behind_gives B (Nl : Int) xl (chainL xl) hl W0 ht (by omega) (by omega) hS)
  have hfin : Hid (chainL xl = (chainL xl).take (chainL xl).length) := Lib.hid (List.take_length).symm
  have hst := Lib.hid (fun i (hi : i < (chainL xl).length) => foldW_take (N := Nl) (s := (Nf, xf)) hi)
  have hb0 := Lib.hid (fun V L (h : SL V L) => behind_c (Nl : Int) (U xl) V h)
  have hm1 := Lib.hid (fun V => many_c N x V)
  have hm2 := Lib.hid (fun V M y => many_c M y V)
  have ht' := Lib.hid ht
  have hS' := Lib.hid hS
  have hk0 : Hid ((Nf, xf) = foldW Nl ((chainL xl).take 0) (Nf, xf)) := Lib.hid rfl
  have hle' := Lib.hid hle
  clear gl gf hg hg2 hl ht hS hle hu H3s
  generalize chainL xl = l at *
  have hH4 : ∀ V, SL V [.blk bf [.int .u64 Nf, .int .u64 (U xf)] 58, .blk bl [.int .u64 Nl, .int .u64 (U xl)] 58, winB p true N (U x), .old W0 S] →
      SL V [.blk bl [.int .u64 Nl, .int .u64 (U xl)] 58, .blk bf [.int .u64 Nf, .int .u64 (U xf)] 58, winB p true N (U x), .old W0 S] := fun V h => h.re (.step (.there (.here _ _)) (.step (.here _ _) (.same _)))
  rcases hc with ⟨hlt, rfl, rfl, rfl, rfl⟩ | ⟨hlt, rfl, rfl, rfl, rfl⟩
  · have d1 : decide ((Nl : Int) < Nf) = true := by simp; omega
    have h4 := ((((H3.out.re (L' := [.blk bl [.int .u64 Nf, .int .u64 (U xf)] 58, .blk bf [.int .u64 Nl, .int .u64 (U xl)] 58, winB p true Nf (U xf), .old W0 S]) (.step (.there (.here _ _)) (.step (.here _ _) (.same _)))).setCell 0 (.int .u64 Nl)).setCell 1 (.int .u64 (U xl))).re
      (L' := [.blk bf [.int .u64 Nl, .int .u64 (U xl)] 58, .blk bl [.int .u64 Nl, .int .u64 (U xl)] 58, winB p true Nf (U xf), .old W0 S]) (.step (.there (.here _ _)) (.step (.here _ _) (.same _)))).setCell 0 (.int .u64 Nf) |>.setCell 1 (.int .u64 (U xf))
    have hV := Lib.hid h4
    clear h4
    gi_wp2_with (first | refine wpIn_label ?_ | refine scope_in ?_)
    generalize (((w3.setCell ⟨bl, 0, none⟩ (.int .u64 Nl)).setCell ⟨bl, 1, none⟩ (.int .u64 (U xl))).setCell ⟨bf, 0, none⟩ (.int .u64 Nf)).setCell ⟨bf, 1, none⟩ (.int .u64 (U xf)) = w4 at *
    have hN : Hid (Nf = Nf) := Lib.hid rfl
    clear c0 c1 c2 c3 f0 f1 H3 d1 hlt ne1 ne2
    refine ⟨trivial, rfl, (calls_in (hb0.out w4 _ hV.out)).mono ?_⟩
    rintro e w5 ⟨B, rfl, H5⟩
    have hH5 := Lib.hid H5
    have hg := Lib.hid (hgv.out B)
    clear H5 hgv hb0 hV
    gi_wp2_with (first | refine wpIn_label ?_ | refine scope_in ?_)
    refine wp_rangeS rfl egB hg.out (by simp)
      (fun i L' => L' = [.blk bf [.int .u64 ((foldW Nl (l.take i) (Nf, xf)).1 : Nat), .int .u64 (U (foldW Nl (l.take i) (Nf, xf)).2)] 58, .blk bl [.int .u64 Nl, .int .u64 (U xl)] 58, winB p true Nf (U xf)])
      (fun c i L' => False)
      (L0 := [.blk bf [.int .u64 Nf, .int .u64 (U xf)] 58, .blk bl [.int .u64 Nl, .int .u64 (U xl)] 58, winB p true Nf (U xf)]) rfl
      (hH5.out.re (.step (.there (.here _ _)) (.step (.there (.here _ _)) (.step (.there (.here _ _)) (.same _))))) ?_ ?_ ?_
    · rintro i hi V l2 _ T rfl H
      have hil : i < l.length := by simpa using hi
      have hxi : (l.map fun i : Nat => #[Value.int .u64 ((Nl : Int) + 1 + i)])[i] = #[.int .u64 ((Nl + 1 + l[i]'hil : Nat) : Int)] := by simp
      rw [hxi]
      obtain ⟨ga, gb⟩ := hat.out i
      have hs := hst.out i hil
      obtain ⟨hb1, hb2⟩ := hch.out _ (List.getElem_mem hil)
      have gn := ga.next
      have hw := Lib.hid (fun V' (h : Tab V') => with_c (foldW Nl (l.take i) (Nf, xf)).1 (Nl + 1 + l[i]'hil) (foldW Nl (l.take i) (Nf, xf)).2 ga.full (by omega) (by have := hle'.out; omega) V' h)
      rw [← hs] at hw
      clear hs ga gb hxi hb1 hb2 gn
      obtain ⟨⟨M1, y1⟩, hz1⟩ : ∃ z, foldW Nl (l.take (i + 1)) (Nf, xf) = z := ⟨_, rfl⟩
      obtain ⟨⟨M0, y0⟩, hz0⟩ : ∃ z, foldW Nl (l.take i) (Nf, xf) = z := ⟨_, rfl⟩
      rw [hz1, hz0] at hw
      rw [hz0] at H
      have hz1' := Lib.hid hz1
      clear hz0 hz1
      generalize Nl + 1 + l[i]'hil = n at *
      dsimp only at hw H
      clear hat hst hch
      gi_wp2_with fail
      refine ⟨_, H, ?_⟩
      clear H
      intro V2 T2 H
      have hT : Tab V2 := ht'.out.kept (H.all (.old W0 S) (by simp [behP])) hS'.out
      simp only [List.cons_append, List.nil_append] at H
      have k0 := H.cell (o := 0) (.here _ _) rfl
      have k1 := H.cell (o := 1) (.here _ _) rfl
      have hH := Lib.hid H
      have hw2 := Lib.hid (hw.out V2 hT)
      clear H hT hw
      gi_wp2_with fail
      refine ⟨trivial, rfl, (calls_inR hw2.out).mono ?_⟩
      rintro e V3 ⟨rfl, k3⟩
      have h6 := hH.out.quiet k3
      have g0 := h6.cell (o := 0) (.here _ _) rfl
      have g1 := h6.cell (o := 1) (.here _ _) rfl
      have kf := fun o => h6.free (.here _ _) o
      have hs := Lib.hid ((h6.setCell 0 (.int .u64 M1)).setCell 1 (.int .u64 (U y1)))
      clear h6 k3 hw2 hH k0 k1
      gi_wp2_with fail
      exact ⟨_, rfl, by rw [hz1'.out]; exact hs.out⟩
    · rintro V _ D rfl H
      have hul := hfin.out
      have hz : Hid (unionM Nf xf Nl xl = foldW Nl (l.take l.length) (Nf, xf)) := Lib.hid (by rw [hu'.out, ← hul])
      obtain ⟨⟨M, y⟩, hM⟩ : ∃ z, foldW Nl (l.take l.length) (Nf, xf) = z := ⟨_, rfl⟩
      have hlen : (l.map fun i : Nat => #[Value.int .u64 ((Nl : Int) + 1 + i)]).length = l.length := by simp
      rw [hlen, hM] at H
      rw [hM] at hz
      have hH := Lib.hid H
      simp only [behP, List.cons_append, List.nil_append] at H
      have k0 := H.cell (o := 0) (.there (.here _ _)) rfl
      have k1 := H.cell (o := 1) (.there (.here _ _)) rfl
      have k2 := H.cell (o := 1) (.there (.there (.there (.here _ _)))) rfl
      have k3 := H.cell (o := 2) (.there (.there (.there (.here _ _)))) rfl
      clear hM hul hlen hat hst hch hfin hu' hk0 hH4 H hH5 hg
      simp only [Exit.inBlock, Exit.then]
      rename_i hK
      refine hK _ _ ?_
      clear hK
      gi_wp2_with (first | refine wpIn_label ?_ | refine scope_in ?_)
      refine ⟨trivial, rfl, (calls_in (hm1.out V)).mono ?_⟩
      rintro e V3 ⟨rfl, kk⟩
      have h6 := hH.out.quiet kk
      simp only [behP, List.cons_append, List.nil_append] at h6
      clear k0 k1 k2 k3 hH kk hm1
      have k0 := h6.cell (o := 0) (.there (.here _ _)) rfl
      have k1 := h6.cell (o := 1) (.there (.here _ _)) rfl
      have k2 := h6.cell (o := 1) (.there (.there (.there (.here _ _)))) rfl
      have k3 := h6.cell (o := 2) (.there (.there (.there (.here _ _)))) rfl
      have kf := fun o => h6.free (.there (.there (.there (.here _ _)))) o
      obtain ⟨ne1, ne2⟩ := h6.ne (L' := [.obj D (.deferred (some [])), .blk bl [.int .u64 Nl, .int .u64 (U xl)] 58, winB p true Nf (U xf), .blk B [.int .u64 Nl, .int .u64 (U xl)] 58, .old W0 S]) (.there (.here _ _)) (.there (.there (.here _ _)))
      have h7 := ((h6.re (L' := [winB p true Nf (U xf), .obj D (.deferred (some [])), .blk bf [.int .u64 M, .int .u64 (U y)] 58, .old W0 S]) (.step (.there (.there (.there (.here _ _)))) (.step (.here _ _) (.step (.here _ _) (.drop (.drop (.same _))))))).setCell 1 (.int .u64 M)).setCell 2 (.int .u64 (U y))
      have hH7 := Lib.hid h7
      have hm3 := Lib.hid (hm2.out ((V3.setCell ⟨p, 1, none⟩ (.int .u64 M)).setCell ⟨p, 2, none⟩ (.int .u64 (U y))) M y)
      clear h6 h7 hm2
      gi_wp2_with (first | refine wpIn_label ?_ | refine scope_in ?_)
      refine ⟨trivial, rfl, (calls_in hm3.out).mono ?_⟩
      rintro e V5 ⟨rfl, kk⟩
      have h8 := hH7.out.quiet kk
      have h9 := h8.re (L' := [.obj D (.deferred (some [])), winB p true M (U y), .old W0 S]) (.step (.there (.here _ _)) (.step (.here _ _) (.drop (.same _))))
      have hH9 := Lib.hid h9
      clear kk h8 h9 hH7 hm3 k0 k1 k2 k3 kf ne1 ne2
      gi_wp2_with (first | refine wpIn_label ?_ | refine scope_in ?_)
      repeat (first | rw [Exit.noGoto_ret] | gi_step)
      refine leaveS (v := .tuple #[.int .i64 (wrap64 (manyV M y - manyV Nf xf)), .int .i64 0]) hH9.out ?_ ?_
      · intro V H
        simp [results, Tryd.results19, go_sem]
      · intro V H
        rw [hz.out]
        exact ⟨rfl, H⟩
    · rintro c i V _ D h H
      exact h.elim
  · have d1 : decide ((Nf : Int) < Nl) = false := by simp; omega
    have hV := H3
    gi_wp2_with (first | refine wpIn_label ?_ | refine scope_in ?_)
    generalize w3 = w4 at *
    have hN : Hid (Nf = Nf) := Lib.hid rfl
    clear c0 c1 c2 c3 f0 f1 H3 d1 hlt ne1 ne2
    refine ⟨trivial, rfl, (calls_in (hb0.out w4 _ hV.out)).mono ?_⟩
    rintro e w5 ⟨B, rfl, H5⟩
    have hH5 := Lib.hid H5
    have hg := Lib.hid (hgv.out B)
    clear H5 hgv hb0 hV
    gi_wp2_with (first | refine wpIn_label ?_ | refine scope_in ?_)
    refine wp_rangeS rfl egB hg.out (by simp)
      (fun i L' => L' = [.blk bf [.int .u64 ((foldW Nl (l.take i) (Nf, xf)).1 : Nat), .int .u64 (U (foldW Nl (l.take i) (Nf, xf)).2)] 58, .blk bl [.int .u64 Nl, .int .u64 (U xl)] 58, winB p true Nl (U xl)])
      (fun c i L' => False)
      (L0 := [.blk bf [.int .u64 Nf, .int .u64 (U xf)] 58, .blk bl [.int .u64 Nl, .int .u64 (U xl)] 58, winB p true Nl (U xl)]) rfl
      (hH5.out.re (.step (.there (.here _ _)) (.step (.there (.here _ _)) (.step (.there (.here _ _)) (.same _))))) ?_ ?_ ?_
    · rintro i hi V l2 _ T rfl H
      have hil : i < l.length := by simpa using hi
      have hxi : (l.map fun i : Nat => #[Value.int .u64 ((Nl : Int) + 1 + i)])[i] = #[.int .u64 ((Nl + 1 + l[i]'hil : Nat) : Int)] := by simp
      rw [hxi]
      obtain ⟨ga, gb⟩ := hat.out i
      have hs := hst.out i hil
      obtain ⟨hb1, hb2⟩ := hch.out _ (List.getElem_mem hil)
      have gn := ga.next
      have hw := Lib.hid (fun V' (h : Tab V') => with_c (foldW Nl (l.take i) (Nf, xf)).1 (Nl + 1 + l[i]'hil) (foldW Nl (l.take i) (Nf, xf)).2 ga.full (by omega) (by have := hle'.out; omega) V' h)
      rw [← hs] at hw
      clear hs ga gb hxi hb1 hb2 gn
      obtain ⟨⟨M1, y1⟩, hz1⟩ : ∃ z, foldW Nl (l.take (i + 1)) (Nf, xf) = z := ⟨_, rfl⟩
      obtain ⟨⟨M0, y0⟩, hz0⟩ : ∃ z, foldW Nl (l.take i) (Nf, xf) = z := ⟨_, rfl⟩
      rw [hz1, hz0] at hw
      rw [hz0] at H
      have hz1' := Lib.hid hz1
      clear hz0 hz1
      generalize Nl + 1 + l[i]'hil = n at *
      dsimp only at hw H
      clear hat hst hch
      gi_wp2_with fail
      refine ⟨_, H, ?_⟩
      clear H
      intro V2 T2 H
      have hT : Tab V2 := ht'.out.kept (H.all (.old W0 S) (by simp [behP])) hS'.out
      simp only [List.cons_append, List.nil_append] at H
      have k0 := H.cell (o := 0) (.here _ _) rfl
      have k1 := H.cell (o := 1) (.here _ _) rfl
      have hH := Lib.hid H
      have hw2 := Lib.hid (hw.out V2 hT)
      clear H hT hw
      gi_wp2_with fail
      refine ⟨trivial, rfl, (calls_inR hw2.out).mono ?_⟩
      rintro e V3 ⟨rfl, k3⟩
      have h6 := hH.out.quiet k3
      have g0 := h6.cell (o := 0) (.here _ _) rfl
      have g1 := h6.cell (o := 1) (.here _ _) rfl
      have kf := fun o => h6.free (.here _ _) o
      have hs := Lib.hid ((h6.setCell 0 (.int .u64 M1)).setCell 1 (.int .u64 (U y1)))
      clear h6 k3 hw2 hH k0 k1
      gi_wp2_with fail
      exact ⟨_, rfl, by rw [hz1'.out]; exact hs.out⟩
    · rintro V _ D rfl H
      have hul := hfin.out
      have hz : Hid (unionM Nl xl Nf xf = foldW Nl (l.take l.length) (Nf, xf)) := Lib.hid (by rw [hu'.out, ← hul])
      obtain ⟨⟨M, y⟩, hM⟩ : ∃ z, foldW Nl (l.take l.length) (Nf, xf) = z := ⟨_, rfl⟩
      have hlen : (l.map fun i : Nat => #[Value.int .u64 ((Nl : Int) + 1 + i)]).length = l.length := by simp
      rw [hlen, hM] at H
      rw [hM] at hz
      have hH := Lib.hid H
      simp only [behP, List.cons_append, List.nil_append] at H
      have k0 := H.cell (o := 0) (.there (.here _ _)) rfl
      have k1 := H.cell (o := 1) (.there (.here _ _)) rfl
      have k2 := H.cell (o := 1) (.there (.there (.there (.here _ _)))) rfl
      have k3 := H.cell (o := 2) (.there (.there (.there (.here _ _)))) rfl
      clear hM hul hlen hat hst hch hfin hu' hk0 hH4 H hH5 hg
      simp only [Exit.inBlock, Exit.then]
      rename_i hK
      refine hK _ _ ?_
      clear hK
      gi_wp2_with (first | refine wpIn_label ?_ | refine scope_in ?_)
      refine ⟨trivial, rfl, (calls_in (hm1.out V)).mono ?_⟩
      rintro e V3 ⟨rfl, kk⟩
      have h6 := hH.out.quiet kk
      simp only [behP, List.cons_append, List.nil_append] at h6
      clear k0 k1 k2 k3 hH kk hm1
      have k0 := h6.cell (o := 0) (.there (.here _ _)) rfl
      have k1 := h6.cell (o := 1) (.there (.here _ _)) rfl
      have k2 := h6.cell (o := 1) (.there (.there (.there (.here _ _)))) rfl
      have k3 := h6.cell (o := 2) (.there (.there (.there (.here _ _)))) rfl
      have kf := fun o => h6.free (.there (.there (.there (.here _ _)))) o
      obtain ⟨ne1, ne2⟩ := h6.ne (L' := [.obj D (.deferred (some [])), .blk bl [.int .u64 Nl, .int .u64 (U xl)] 58, winB p true Nl (U xl), .blk B [.int .u64 Nl, .int .u64 (U xl)] 58, .old W0 S]) (.there (.here _ _)) (.there (.there (.here _ _)))
      have h7 := ((h6.re (L' := [winB p true Nl (U xl), .obj D (.deferred (some [])), .blk bf [.int .u64 M, .int .u64 (U y)] 58, .old W0 S]) (.step (.there (.there (.there (.here _ _)))) (.step (.here _ _) (.step (.here _ _) (.drop (.drop (.same _))))))).setCell 1 (.int .u64 M)).setCell 2 (.int .u64 (U y))
      have hH7 := Lib.hid h7
      have hm3 := Lib.hid (hm2.out ((V3.setCell ⟨p, 1, none⟩ (.int .u64 M)).setCell ⟨p, 2, none⟩ (.int .u64 (U y))) M y)
      clear h6 h7 hm2
      gi_wp2_with (first | refine wpIn_label ?_ | refine scope_in ?_)
      refine ⟨trivial, rfl, (calls_in hm3.out).mono ?_⟩
      rintro e V5 ⟨rfl, kk⟩
      have h8 := hH7.out.quiet kk
      have h9 := h8.re (L' := [.obj D (.deferred (some [])), winB p true M (U y), .old W0 S]) (.step (.there (.here _ _)) (.step (.here _ _) (.drop (.same _))))
      have hH9 := Lib.hid h9
      clear kk h8 h9 hH7 hm3 k0 k1 k2 k3 kf ne1 ne2
      gi_wp2_with (first | refine wpIn_label ?_ | refine scope_in ?_)
      repeat (first | rw [Exit.noGoto_ret] | gi_step)
      refine leaveS (v := .tuple #[.int .i64 (wrap64 (manyV M y - manyV Nl xl)), .int .i64 0]) hH9.out ?_ ?_
      · intro V H
        simp [results, Tryd.results19, go_sem]
      · intro V H
        rw [hz.out]
        exact ⟨rfl, H⟩
    · rintro c i V _ D h H
      exact h.elim
end Go.Proofs.YtkoajbmomipjkaaDoor

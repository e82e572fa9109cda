/- The walks of the reference's Numbers and Holes. -/
import Derived.Test.YtkoajbmomipjkaaDoorRefD
namespace Go.Proofs.YtkoajbmomipjkaaDoor
open Go.RowKit
set_option linter.unusedVariables false

set_option maxHeartbeats 4000000 in
theorem numbers_c (l : List Nat) (hl : l.length ≤ 100000) (a b : Option Addr) (ca cb : Nat) (w : World) (ra : Rd w a (l.length * 1) (fun i => (uv l).getD i undef)) (rb : Rd w b (l.length * 1) (fun i => (uv l).getD i undef)) :
    Calls Tryd.prog 34 #[.slice a l.length ca, .slice b l.length cb] w fun e w' => e = .returned (.bool true) ∧ Kp no w w' := by
  have ra' := Lib.hid ra
  have rb' := Lib.hid rb
  clear ra rb
  have hv : Hid (∀ k, k < l.length → (uv l).getD k undef = .int .u64 ((l.getD k 0 : Nat) : Int)) := Lib.hid (fun k hk => by
    unfold uv
    rw [List.getD_eq_getElem?_getD, List.getElem?_map, List.getD_eq_getElem?_getD, List.getElem?_eq_getElem hk]
    rfl)
  have hk0 := Lib.hid (Kp.refl no w)
  obtain ⟨len, hlen⟩ : ∃ len, l.length = len := ⟨_, rfl⟩
  rw [hlen] at ra' rb' hv hl ⊢
  clear hlen
  go_enter Tryd.func34, Tryd.ntmps34
  go_wp2_with fail
  go_loopw [5] (fun i V => ∃ k : Nat, k ≤ len ∧ i = .int .i64 (k : Int) ∧ Kp no w V) (fun i _ => len - (intOf i).toNat)
  case atStart => exact ⟨0, by omega, rfl, hk0.out⟩
  case round =>
    clear hk0
    obtain ⟨k, hk, rfl, hkp⟩ := hrel
    by_cases hlt : k < len
    · obtain ⟨b1, o1, rfl, h1⟩ := (ra'.out.no hkp) k (by omega)
      obtain ⟨b2, o2, rfl, h2⟩ := (rb'.out.no hkp) k (by omega)
      have e1 := hv.out k hlt
      have g1 : wr.cell? ⟨b1, o1 + k, none⟩ = some (.int .u64 ((l.getD k 0 : Nat) : Int)) := by rw [← e1]; exact h1
      have g2 : wr.cell? ⟨b2, o2 + k, none⟩ = some (.int .u64 ((l.getD k 0 : Nat) : Int)) := by rw [← e1]; exact h2
      generalize l.getD k 0 = y at *
      have hkp' := Lib.hid hkp
      clear h1 h2 e1 hkp
      go_wp2_with fail
      go_quiet (fail)
      have hk2 := Lib.hid (hkp'.out.drewN nq)
      clear g1 g2
      go_wp2_with fail
      go_roundw
      case rel => exact ⟨k + 1, by omega, by go_num, hk2.out⟩
      case measure => (simp [intOf]; try omega)
    · obtain rfl : k = len := by omega
      have hkp' := Lib.hid hkp
      clear hkp hlt
      go_wp2_with fail
      go_ret
      exact ⟨rfl, hkp'.out⟩

/-- The holes so far. -/
structure HolR (N : Nat) (x : BitVec 64) (n : Nat) (l : List Nat) : Prop where
  le : N ≤ n
  eq : l = (List.range' N (n - N)).filter fun k => !metM N x k
theorem HolR.start (N : Nat) (x : BitVec 64) : HolR N x N [] := ⟨Nat.le_refl _, by rw [Nat.sub_self]; rfl⟩
theorem HolR.range {N n : Nat} (h : N ≤ n) : List.range' N (n + 1 - N) = List.range' N (n - N) ++ [n] := by
  rw [show n + 1 - N = (n - N) + 1 by omega, ← List.range'_append_1, show N + (n - N) = n by omega]; rfl
theorem HolR.met {N n : Nat} {x : BitVec 64} {l : List Nat} (h : HolR N x n l) (hm : metM N x n = true) : HolR N x (n + 1) l :=
  ⟨by have := h.le; omega, by rw [HolR.range h.le, List.filter_append, ← h.eq]; simp [hm]⟩
theorem HolR.hole {N n : Nat} {x : BitVec 64} {l : List Nat} (h : HolR N x n l) (hm : metM N x n = false) : HolR N x (n + 1) (l ++ [n]) :=
  ⟨by have := h.le; omega, by rw [HolR.range h.le, List.filter_append, ← h.eq]; simp [hm]⟩
theorem HolR.fin {N n T : Nat} {x : BitVec 64} {l : List Nat} (h : HolR N x n l) (hT : topM N x = T + 1) (hn : ¬ n < T) (hn2 : n ≤ T ∨ n = N) : holesM N x = l := by
  obtain ⟨a0, a1, a2, a3, a4, a5⟩ := holes_spec N x
  have hle := h.le
  rw [h.eq, a0, hT]
  rcases a4 with a4 | ⟨a4, a6⟩
  · have e1 : T + 1 - N = 0 := by omega
    have e2 : n - N = 0 := by omega
    rw [e1, e2]
  · rw [hT] at a4 a6
    have hNT : N ≤ T := by omega
    have hnT : n = T := by omega
    subst hnT
    rw [HolR.range hle, List.filter_append]
    have : metM N x n = true := a6
    simp [this]
theorem HolR.len {N n : Nat} {x : BitVec 64} {l : List Nat} (h : HolR N x n l) : l.length ≤ n - N := by
  rw [h.eq]
  refine Nat.le_trans (List.length_filter_le _ _) ?_
  rw [List.length_range']; exact Nat.le_refl _

set_option maxRecDepth 10000 in
set_option maxHeartbeats 4000000 in
theorem refHoles_c {N : Nat} {x : BitVec 64} (hg : Good 4611686018427387904 N x) {L : List Pc} {w : World} (H : SL w L) :
    Calls Tryd.prog 35 #[.agg #[.int .u64 N, .int .u64 (U x)]] w fun e w' => ∃ a c, e = .returned (.slice a (holesM N x).length c) ∧
      SL w' (.own 22 1 (.slice a (holesM N x).length c) (holesM N x).length (uv (holesM N x)) :: L) := by
  have hNT := hg.next
  have hla := Lib.hid (fun V => refLast_c hg V)
  rw [lastA_top hg] at hla
  obtain ⟨a0, a1, a2, a3, a4, a5⟩ := holes_spec N x
  have hfin := Lib.hid (fun n T l (h : HolR N x n l) => h.fin (T := T))
  have hh := Lib.hid (fun n (hn : n ≤ 18446744073709551615) V => refHas_c N n x hn V)
  have hH := Lib.hid ((H.pure (q := .own 22 1 (.slice none 0 0) 0 []) (OwnK.nil _ _ _ _) (fun b h => by cases h)).alloc [.int .u64 N, .int .u64 (U x)] 50)
  have hz : Hid (topM N x = 0 → holesM N x = []) := Lib.hid (fun h => by rw [a0, h, Nat.zero_sub]; rfl)
  clear hg a0 a3 a4 a5 H
  go_enter Tryd.func35, Tryd.ntmps35
  go_wp2_with fail
  generalize w.alloc (.cells #[.int .u64 N, .int .u64 (U x)] 50) = w2 at *
  generalize w.heap.size = b1 at *
  have c0 := hH.out.cell (o := 0) (.here _ _) rfl
  have c1 := hH.out.cell (o := 1) (.here _ _) rfl
  by_cases hT : topM N x = 0
  · rw [if_pos hT] at hla
    have he := Lib.hid (hz.out hT)
    clear hT hz hfin a2 a1
    go_wp2_with fail
    refine (hla.out _).mono ?_
    rintro e w3 ⟨rfl, k3⟩
    have H3 := Lib.hid (hH.out.quiet k3)
    clear k3 hH hla c0 c1
    have c0 := H3.out.cell (o := 0) (.here _ _) rfl
    go_wp2_with fail
    go_loopw [6, 5] (fun t s V => t = .int .u64 (N : Int) ∧ s = .slice none 0 0 ∧ V = w3) (fun _ _ _ => 0)
    case atStart => exact ⟨rfl, rfl, by trivial⟩
    case round =>
      obtain ⟨rfl, rfl, hV⟩ := hrel
      subst hV
      go_wp2_with fail
      go_ret
      refine ⟨none, 0, by rw [he.out]; rfl, ?_⟩
      rw [he.out]
      exact H3.out.re (.step (.there (.here _ _)) (.drop (.same _)))
  · rw [if_neg hT] at hla
    obtain ⟨T, hT1⟩ : ∃ T, topM N x = T + 1 := ⟨topM N x - 1, by omega⟩
    have hfin' := Lib.hid (fun n l (h : HolR N x n l) => hfin.out n T l h hT1)
    rw [hT1] at hla a2
    simp only [Nat.add_sub_cancel] at hla
    have hT64 : T ≤ N + 64 := by omega
    clear hT hz hfin hT1 a1 a2
    go_wp2_with fail
    refine (hla.out _).mono ?_
    rintro e w3 ⟨rfl, k3⟩
    have H3 := Lib.hid (hH.out.quiet k3)
    clear k3 hH hla c0 c1
    have c0 := H3.out.cell (o := 0) (.here _ _) rfl
    go_wp2_with fail
    go_loopw [6, 5] (fun t s V => ∃ (n : Nat) (l : List Nat) (a : Option Addr) (c : Nat), N ≤ n ∧ (n ≤ T ∨ n = N) ∧ t = .int .u64 (n : Int) ∧ s = .slice a l.length c ∧ HolR N x n l ∧
      SL V (.blk b1 [.int .u64 N, .int .u64 (U x)] 50 :: .own 22 1 (.slice a l.length c) l.length (uv l) :: L)) (fun t _ _ => T + 1 - (intOf t).toNat)
    case atStart => exact ⟨N, [], none, 0, by omega, .inr rfl, rfl, rfl, HolR.start N x, H3.out⟩
    case round =>
      clear H3 c0
      obtain ⟨n, l, a, c, hn, hn2, rfl, rfl, hr, H⟩ := hrel
      have c0 := H.cell (o := 0) (.here _ _) rfl
      have c1 := H.cell (o := 1) (.here _ _) rfl
      by_cases hlt : n < T
      · have hnT : n ≤ T := by omega
        have hl := hr.len
        have hn3 : n < N + 64 := by omega
        have hn4 : n ≤ 4611686018427389000 := by omega
        obtain ⟨m, hm⟩ : ∃ m, l.length = m := ⟨_, rfl⟩
        have hm5 : m ≤ 5000 := by omega
        have hc := Lib.hid (fun V => hh.out n (by omega) V)
        have hme := Lib.hid (fun h => hr.met h)
        have hho := Lib.hid (fun h => hr.hole h)
        have hm' := Lib.hid hm
        rw [hm] at H ⊢
        have hH := Lib.hid H
        clear H hr hl hm hn2
        cases hmt : metM N x n with
        | true =>
          have hr2 := Lib.hid (hme.out hmt)
          rw [hmt] at hc
          clear hme hho hmt
          go_wp2_with fail
          refine (hc.out _).mono ?_
          rintro e w4 ⟨rfl, k4⟩
          have H4 := Lib.hid (hH.out.quiet k4)
          clear k4 hH hc c0 c1
          go_wp2_with fail
          go_roundw
          case rel => exact ⟨n + 1, l, a, c, by omega, .inl (by omega), by go_num, by rw [hm'.out], hr2.out, by rw [hm'.out]; exact H4.out⟩
          case measure => (simp [intOf]; try omega)
        | false =>
          have hr2 := Lib.hid (hho.out hmt)
          rw [hmt] at hc
          clear hme hho hmt
          go_wp2_with fail
          refine (hc.out _).mono ?_
          rintro e w4 ⟨rfl, k4⟩
          have H4 := Lib.hid (hH.out.quiet k4)
          clear k4 hH hc c0 c1
          go_wp2_with (
            at_builtin
            refine sl_app (H4.out.alloc [.int .u64 n] 22) rfl _ _ _ rfl elemU _ rfl (.there (.there (.here _ _))) [.int .u64 n] rfl rfl (rd_newK _ _ _) (by simp [Value.oneCell']) (by simp only [maxLen]; omega) (by omega) (fun h => by cases h) ?_
            intro v' w5 H5 hnil
            obtain ⟨a', c', rfl, -⟩ := OwnK.slice H5.head
            have H6 := Lib.hid (H5.re (.step (.there (.there (.here _ _))) (.step (.here _ _) (.drop (.same _)))))
            clear H5 hnil)
          go_roundw
          case rel =>
            refine ⟨n + 1, l ++ [n], a', c', by omega, .inl (by omega), by go_num, ?_, hr2.out, ?_⟩
            · rw [List.length_append, hm'.out]; rfl
            · rw [List.length_append, hm'.out, uv_append]; exact H6.out
          case measure => (simp [intOf]; try omega)
      · have he := hfin'.out n l hr hlt hn2
        have he' := Lib.hid he
        have hH := Lib.hid H
        have hT2 : T ≤ n := by omega
        clear he H hr hn2
        go_wp2_with fail
        go_ret
        refine ⟨a, c, by rw [he'.out]; rfl, ?_⟩
        rw [he'.out]
        exact hH.out.re (.step (.there (.here _ _)) (.drop (.same _)))
end Go.Proofs.YtkoajbmomipjkaaDoor

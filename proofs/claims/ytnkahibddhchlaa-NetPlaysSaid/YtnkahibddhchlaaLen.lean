/- The walk of the net's Len. -/
import Derived.Test.YtnkahibddhchlaaAll
namespace Go.Proofs.Ytnkahibddhchlaa
open Go.RowKit Go.Shelf
set_option linter.unusedVariables false
attribute [local go_sem] Oper.semAt_some

theorem eq_pair (d : Nat) (a b c e : Int) (w : World) : (Op.equalIn (d + 2) 42 (.agg #[.int .i64 a, .int .i64 b]) (.agg #[.int .i64 c, .int .i64 e])).run Try.prog w = .ok (decide (a = c ∧ b = e)) w := by
  obtain ⟨i0, hi0⟩ : ∃ i, Try.prog.info? 3 = some i := ⟨_, rfl⟩
  rw [run_equalIn_array _ (d + 1) _ _ (show Try.prog.underlying 42 = some (.array 2 3) by kernel_rfl) hi0]
  rw [show Try.prog.cellsOf 3 = 1 by kernel_rfl, show List.range 2 = [0, 1] from rfl]
  by_cases h1 : a = c <;> by_cases h2 : b = e <;> simp [Op.eqItems, h1, h2, go_sem]
theorem eql_pair (a b c e : Int) (w : World) : (binOp .eql 42 (.agg #[.int .i64 a, .int .i64 b]) (.agg #[.int .i64 c, .int .i64 e])).run Try.prog w = .ok (.bool (decide (a = c ∧ b = e))) w := by
  rw [run_eql_struct, eq_pair 9998 a b c e w]
  rfl
theorem neq_pair (a b c e : Int) (w : World) : (binOp .neq 42 (.agg #[.int .i64 a, .int .i64 b]) (.agg #[.int .i64 c, .int .i64 e])).run Try.prog w = .ok (.bool (!decide (a = c ∧ b = e))) w := by
  rw [run_neq_struct, eq_pair 9998 a b c e w]
  rfl
theorem guard_pair (op : BinOp) (x y : Operand) (xs ys : Array Value) (w : World) : (eqGuard op 42 x y (.agg xs) (.agg ys)).run Try.prog w = .ok () w := run_eqGuard_agg w op _ x y xs ys (by kernel_rfl)

theorem mem_heldK {n : Nat} {F : Ky → List (List Int)} {k : Ky} (h1 : 0 ≤ k.1 ∧ k.1 < n) (h2 : 0 ≤ k.2 ∧ k.2 < n) (hne : F k ≠ []) : k ∈ heldK n F := by
  unfold heldK
  rw [List.mem_filter]
  obtain ⟨a, b⟩ := k
  obtain ⟨h, e⟩ := allK_at (n := n) (a := a.toNat) (b := b.toNat) (by omega) (by omega)
  refine ⟨?_, by simpa [List.isEmpty_iff] using hne⟩
  have := List.getElem_mem h
  rw [e] at this
  simp only at h1 h2
  rwa [Int.toNat_of_nonneg h1.1, Int.toNat_of_nonneg h2.1] at this
theorem look_held {n room : Nat} {xs : List Ln} (ok : NOk n room xs) {k : Ky} (hne : look xs k ≠ []) : k ∈ heldK n (look xs) := by
  rcases look_cases xs k with h | ⟨i, hi, h⟩
  · exact absurd (look_none h).1 hne
  · have := ok.key _ (List.getElem_mem hi)
    rw [h] at this
    exact mem_heldK ⟨this.1, this.2.1⟩ ⟨this.2.2.1, this.2.2.2.1⟩ hne

section
variable {p : Nat} {s : NSt} {L : List Pc} {w : World}
set_option maxHeartbeats 4000000 in
theorem len_c (H0 : NAt p s L w) (a b : Int) :
    Calls Try.prog 19 #[ptrV p, .int .i64 a, .int .i64 b] w fun e w' => e = .returned (.int .i64 ((s.F (a, b)).length : Nat)) ∧ NAt p s L w' := by
  obtain ⟨m, xs, H, ok, hF⟩ := H0
  obtain ⟨n, room, t, F⟩ := s
  dsimp only at H ok hF
  subst hF
  dsimp only
  have hno := Lib.hid (fun V L' (h : SL V (netB p n room m t :: L')) => none_c h)
  have hheld := Lib.hid (fun V L' (h : SL V L') => held_c p V h)
  have hg := Lib.hid (fun B => held_gives B p m n room t (fun _ => xs) (xs.map kOf) (look xs) (fun _ => ok) (fun _ => rfl) (fun i h => rfl))
  have hin := Lib.hid (fun h => look_held ok (k := (a, b)) h)
  have hcellL : Hid (∀ i (hi : i < (heldK n (look xs)).length), ∃ q, kat (xs.map kOf) ((heldK n (look xs))[i]'hi) = ptrV q ∧ ∀ V R, SL V (netP p m n room t xs ++ R) → ∃ a c, V.cell? ⟨q, 0, none⟩ = some (.slice a (look xs ((heldK n (look xs))[i]'hi)).length c)) := Lib.hid fun i hi => by
    obtain ⟨j, hj, h1, h2, h3, h4⟩ := held_lane ok hi
    refine ⟨_, h2, fun V R h => ?_⟩
    have hS := net_split h hj
    obtain ⟨a, c, hsl, -⟩ := ln_slice hS (.there (.here _ _))
    have hc := hS.cell (b := (xs[j]'hj).q) (o := 0) (.here _ _) rfl
    rw [hsl] at hc
    exact ⟨a, c, by rw [hc, h3, List.length_map]⟩
  have hok := Lib.hid ok
  have hmx : Try.prog.follows .mixedOrders = true := by kernel_rfl
  obtain ⟨K, hK⟩ : ∃ K, heldK n (look xs) = K := ⟨_, rfl⟩
  rw [hK] at hg hin hcellL
  have H1 := (H.alloc [.int .i64 a] 3).alloc [.int .i64 b] 3
  rw [World.size_alloc] at H1
  have hH := Lib.hid H1
  clear H ok hK H1
  refine calls_of_marks Try.func19 rfl ?_
  simp only [Try.ntmps19, List.size_toArray, List.length_cons, List.length_nil, Nat.reduceAdd, Nat.reduceSub, Array.replicate_succ, Array.replicate_zero, List.push_toArray, List.append_toArray, List.nil_append, List.cons_append]
  unfold ptrV at *
  gi_wp2_with (first | refine wpIn_label ?_ | refine scope_in ?_)
  generalize (w.alloc (.cells [Value.int .i64 a].toArray 3)).alloc (.cells [Value.int .i64 b].toArray 3) = w1 at *
  generalize w.heap.size + 1 = b5 at *
  generalize w.heap.size = b4 at *
  have hno' := (hno.out w1 _ (hH.out.tail.tail))
  clear hno
  refine ⟨trivial, rfl, calls_in (hno'.mono ?_)⟩
  rintro e w' ⟨rfl, rfl⟩
  clear hno'
  gi_wp2_with (first | refine wpIn_label ?_ | refine scope_in ?_)
  have H1 := hH.out.alloc [.int .i64 0] 3
  generalize w1.alloc (.cells [Value.int .i64 0].toArray 3) = w2 at *
  generalize w1.heap.size = S at *
  refine ⟨trivial, rfl, calls_in ((hheld.out _ _ H1).mono ?_)⟩
  rintro e w3 ⟨B, rfl, H2⟩
  have H3 := Lib.hid (held_put (O := [.blk S [.int .i64 0] 3, .blk b5 [.int .i64 b] 3, .blk b4 [.int .i64 a] 3]) H2)
  clear H1 H2 hheld hH
  have hgd := guard_pair
  gi_wp2_with (first | refine wpIn_label ?_ | refine scope_in ?_)
  refine wp_rangeS rfl egH (hg.out B) (by intro x hx; obtain ⟨k, _, rfl⟩ := List.mem_map.1 hx; rfl)
    (fun i L' => (∀ j (h : j < K.length), j < i → K[j]'h ≠ (a, b)) ∧ L' = .blk S [.int .i64 0] 3 :: .blk b5 [.int .i64 b] 3 :: .blk b4 [.int .i64 a] 3 :: L)
    (fun c i L' => c = .exit 0 ∧ L' = .blk S [.int .i64 ((look xs (a, b)).length : Nat)] 3 :: .blk b5 [.int .i64 b] 3 :: .blk b4 [.int .i64 a] 3 :: L)
    (L0 := .blk S [.int .i64 0] 3 :: .blk b5 [.int .i64 b] 3 :: .blk b4 [.int .i64 a] 3 :: L) ⟨fun j h h' => by omega, rfl⟩ H3.out ?_ ?_ ?_
  · rintro i hi V l _ T ⟨hne, rfl⟩ H
    have hi' : i < K.length := by simpa [heldX] using hi
    obtain ⟨q, hq, hcell⟩ := hcellL.out i hi'
    have hx : (heldX (xs.map kOf) K)[i] = #[.agg #[.int .i64 (K[i]'hi').1, .int .i64 (K[i]'hi').2], .pointer (some ⟨q, 0, none⟩)] := by simp only [heldX, List.getElem_map, hq, kyV]
    rw [hx]
    clear hx
    have hstep : Hid (K[i]'hi' ≠ (a, b) → ∀ j (h : j < K.length), j < i + 1 → K[j]'h ≠ (a, b)) := Lib.hid fun hk j h hj => by
      by_cases e : j = i
      · subst e; exact hk
      · exact hne j h (by omega)
    generalize K[i]'hi' = k at *
    clear hq H3 hg hne hcellL
    obtain ⟨k1, k2⟩ := k
    dsimp only at *
    gi_wp2_with fail
    have H := H.alloc [.int .i64 k1, .int .i64 k2] 42
    generalize V.alloc (.cells [Value.int .i64 k1, .int .i64 k2].toArray 42) = V3 at *
    generalize V.heap.size = kb at *
    refine ⟨.blk kb [.int .i64 k1, .int .i64 k2] 42 :: .blk S [.int .i64 0] 3 :: .blk b5 [.int .i64 b] 3 :: .blk b4 [.int .i64 a] 3 :: L, H, ?_⟩
    clear H
    intro V2 T2 H
    obtain ⟨a1, c1, hl⟩ := hcell V2 _ (SL.tail (SL.swap H))
    simp only [List.cons_append] at H
    have s0 := H.cell (b := S) (o := 0) (.there (.here _ _)) rfl
    have f0 := H.free (b := S) (.there (.here _ _)) 0
    have z0 := H.cell (b := kb) (o := 0) (.here _ _) rfl
    have z1 := H.cell (b := kb) (o := 1) (.here _ _) rfl
    have y0 := H.cell (b := b5) (o := 0) (.there (.there (.here _ _))) rfl
    have x0 := H.cell (b := b4) (o := 0) (.there (.there (.there (.here _ _)))) rfl
    have heq := fun w => eql_pair k1 k2 a b w
    have H8 := Lib.hid (H.re (.step (.there (.here _ _)) (.step (.there (.here _ _)) (.step (.there (.here _ _)) (.drop (.same _))))))
    by_cases hk : k1 = a ∧ k2 = b
    · rw [decide_eq_true hk] at heq
      obtain ⟨rfl, rfl⟩ := hk
      have H9 := Lib.hid (H8.out.setCell 0 (.int .i64 ((look xs (k1, k2)).length : Nat)))
      obtain ⟨R, hR⟩ : ∃ R, (look xs (k1, k2)).length = R := ⟨_, rfl⟩
      rw [hR] at hl H9
      have hR' := Lib.hid hR
      clear H hcell H8 hR hstep
      gi_wp2_with fail
      exact ⟨_, ⟨rfl, rfl⟩, by rw [hR'.out]; exact H9.out⟩
    · rw [decide_eq_false hk] at heq
      have hk' := Lib.hid (hstep.out (by simpa using hk))
      clear H hcell hk hstep
      gi_wp2_with fail
      exact ⟨_, ⟨hk'.out, rfl⟩, H8.out⟩
  · rintro V _ D ⟨hne, rfl⟩ H
    have hzero : look xs (a, b) = [] := by
      apply Classical.byContradiction
      intro h
      obtain ⟨j, hj, e⟩ := List.mem_iff_getElem.1 (hin.out h)
      exact hne j hj (by simpa [heldX] using hj) e
    have hz' : Hid ((look xs (a, b)).length = 0) := Lib.hid (by rw [hzero]; rfl)
    have H' := Lib.hid (held_get (D := [.obj D (.deferred (some []))]) (O := [.blk S [.int .i64 0] 3, .blk b5 [.int .i64 b] 3, .blk b4 [.int .i64 a] 3]) H)
    have z := H.cell (b := S) (o := 0) (.there (.here _ _)) rfl
    clear H hne hzero hcellL H3 hg hin
    gi_wp2_with fail
    refine leaveS (v := .int .i64 0) H'.out ?_ ?_
    · intro V h
      simp [results, Try.results19, go_sem]
    · intro V h
      exact ⟨by rw [hz'.out]; rfl, m, xs, h.tail.tail.tail, hok.out, rfl⟩
  · rintro c i V _ D ⟨rfl, rfl⟩ H
    have H' := Lib.hid (held_get (D := [.obj D (.deferred (some []))]) (O := [.blk S [.int .i64 ((look xs (a, b)).length : Nat)] 3, .blk b5 [.int .i64 b] 3, .blk b4 [.int .i64 a] 3]) H)
    have z := H.cell (b := S) (o := 0) (.there (.here _ _)) rfl
    obtain ⟨R, hR⟩ : ∃ R, (look xs (a, b)).length = R := ⟨_, rfl⟩
    rw [hR] at z H'
    have hR' := Lib.hid hR
    clear H hcellL H3 hg hin hR
    gi_wp2_with fail
    refine leaveS (v := .int .i64 (R : Nat)) H'.out ?_ ?_
    · intro V h
      simp [results, Try.results19, go_sem]
    · intro V h
      exact ⟨by rw [hR'.out], m, xs, h.tail.tail.tail, hok.out, rfl⟩
end
end Go.Proofs.Ytnkahibddhchlaa

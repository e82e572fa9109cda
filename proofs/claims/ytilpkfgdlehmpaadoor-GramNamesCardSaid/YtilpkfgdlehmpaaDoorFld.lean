/- fields: the numbers that a kind names; slices.Values over them. -/
import Derived.Test.YtilpkfgdlehmpaaDoorRdrT
import Derived.Test.YtilpkfgdlehmpaaDoorSLRange
import Derived.Test.YtilpkfgdlehmpaaDoorCalm
import Derived.Test.YtilpkfgdlehmpaaDoorOrder
import Derived.StillTailTactics
namespace Go.Proofs.YtilpkfgdlehmpaaDoor
open Go.RowKit Go.Shelf
set_option linter.unusedVariables false

/-- A datagram's cells. -/
def gmC (g : Gm) (d : Value) : List Value := [.int .i64 g.fr, .int .i64 g.dst, .int .i64 g.kind, .int .u64 g.n, .int .i64 g.by', .int .u64 g.seq, .int .u64 g.ack, .int .u64 g.mask, d]
abbrev gmB (p : Nat) (g : Gm) (d : Value) : Pc := .blk p (gmC g d) 25
/-- The fields' table, and what of it is handed over. -/
abbrev fldP (A p : Nat) : Pc := .blk A [.pointer (some ⟨p, 5, none⟩), .int .u64 4611686018427387903, .pointer (some ⟨p, 6, none⟩), .int .u64 4611686018427387904, .pointer (some ⟨p, 7, none⟩), .int .u64 9223372036854775807] 60
def fldS (A : Nat) (kind : Int) : Value := if kind = 1 then .slice none 0 0 else if kind = 3 then .slice (some ⟨A, 2, none⟩) 2 2 else .slice (some ⟨A, 0, none⟩) 3 3

theorem values_c (a : Option Addr) (n c : Nat) {L : List Pc} {w : World} (H : SL w L) : Calls Tryd.prog 53 #[.slice a n c] w fun e w' => ∃ B, e = .returned (.func (.func 69) #[] #[ptrV B]) ∧ SL w' (.blk B [.slice a n c] 92 :: L) := by
  have hH := Lib.hid (H.alloc [.slice a n c] 92)
  clear H
  unfold ptrV at *
  go_enter Tryd.func53, Tryd.ntmps53
  go_wp2_with fail
  go_ret
  exact ⟨_, rfl, hH.out⟩

set_option maxRecDepth 100000 in
set_option maxHeartbeats 2000000 in
theorem fields_c (p : Nat) (kind : Int) {L : List Pc} {w : World} (H : SL w L) (hk : w.cell? ⟨p, 2, none⟩ = some (.int .i64 kind)) :
    Calls Tryd.prog 28 #[ptrV p] w fun e w' => ∃ A B, e = .returned (.func (.func 69) #[] #[ptrV B]) ∧ SL w' (.blk B [fldS A kind] 92 :: fldP A p :: L) := by
  have hv := Lib.hid (fun a n c L w H => values_c a n c (L := L) (w := w) H)
  have hH := Lib.hid H
  have hlt : p < w.heap.size := cell_lt hk
  clear H
  unfold ptrV at *
  have hA := Lib.hid ((hH.out.alloc [.pointer (some ⟨p, 5, none⟩), .int .u64 4611686018427387903, .pointer (some ⟨p, 6, none⟩), .int .u64 4611686018427387904, .pointer (some ⟨p, 7, none⟩), .int .u64 9223372036854775807] 60).drew)
  by_cases h1 : kind = 1
  · subst h1
    go_enter Tryd.func28, Tryd.ntmps28
    go_wp2_with fail
    go_still_tail 12, (by kernel_rfl)
    change wpList _ _ _ _ _ w.drew
    go_wp2_with fail
    refine (hv.out _ _ _ _ _ hA.out).mono ?_
    rintro e w2 ⟨B, rfl, H2⟩
    have hf := Lib.hid H2
    clear hv hA hH H2
    go_wp2_with fail
    go_ret
    exact ⟨_, _, rfl, hf.out⟩
  have h1b : (kind == 1) = false := by simpa using h1
  by_cases h3 : kind = 3
  · subst h3
    clear h1
    go_enter Tryd.func28, Tryd.ntmps28
    go_wp2_with fail
    go_still_tail 12, (by kernel_rfl)
    change wpList _ _ _ _ _ w.drew
    go_wp2_with fail
    refine (hv.out _ _ _ _ _ hA.out).mono ?_
    rintro e w2 ⟨B, rfl, H2⟩
    have hf := Lib.hid H2
    clear hv hA hH H2
    go_wp2_with fail
    go_ret
    exact ⟨_, _, rfl, hf.out⟩
  · have h3b : (kind == 3) = false := by simpa using h3
    have h13 := Lib.hid (And.intro h1 h3)
    clear h1 h3
    go_enter Tryd.func28, Tryd.ntmps28
    go_wp2_with fail
    go_still_tail 12, (by kernel_rfl)
    change wpList _ _ _ _ _ w.drew
    go_wp2_with fail
    refine (hv.out _ _ _ _ _ hA.out).mono ?_
    rintro e w2 ⟨B, rfl, H2⟩
    have hf := Lib.hid H2
    clear hv hA hH H2
    go_wp2_with fail
    go_ret
    exact ⟨_, _, rfl, by rw [fldS, if_neg h13.out.1, if_neg h13.out.2]; exact hf.out⟩

abbrev vfn : Nat := 69
theorem egF : ∀ args w, (callFunc vfn args).run Tryd.prog w = .ok (.enter vfn args) w := enters_of Tryd.func69 (by kernel_rfl) rfl
def fldY (p : Nat) (ys : List (Nat × Int)) : List (Array Value) := ys.map fun y => #[.agg #[.pointer (some ⟨p, y.1, none⟩), .int .u64 y.2]]
theorem fldY_length (p : Nat) (ys : List (Nat × Int)) : (fldY p ys).length = ys.length := by simp [fldY]
/-- A slice of fields as an iterator: n of them, from the place o on. -/
theorem vals_gives (A B p : Nat) (a : Option Addr) (o n : Nat) (ys : List (Nat × Int)) (hl : ys.length = n) (hn : n ≤ 3) (ha : n ≠ 0 → a = some ⟨A, o, none⟩)
    (hc : ∀ V L, SL V (fldP A p :: L) → ∀ i (hi : i < ys.length), V.cell? ⟨A, o + i * 2, none⟩ = some (.pointer (some ⟨p, (ys[i]'hi).1, none⟩)) ∧ V.cell? ⟨A, o + i * 2 + 1, none⟩ = some (.int .u64 (ys[i]'hi).2)) :
    GivesS Tryd.prog vfn #[.pointer (some ⟨B, 0, none⟩)] (fldY p ys) (fun _ => [.blk B [.slice a n n] 92, fldP A p]) (fun _ => [.blk B [.slice a n n] 92, fldP A p]) := by
  intro l J Z W L0 hY h0 H
  have hY' := Lib.hid hY
  have h0' := Lib.hid h0
  have hH := Lib.hid H
  have hc' := Lib.hid hc
  have hl' := Lib.hid hl
  have hmx : Tryd.prog.follows .mixedOrders = true := by kernel_rfl
  simp only [List.cons_append] at H
  have c0 := H.cell (b := B) (o := 0) (.here _ _) rfl
  clear hY h0 H hc hl
  refine callsIn_of_wp Tryd.func69 rfl trivial ?_ rfl
  simp only [Tryd.ntmps69, List.size_toArray, List.length_cons, List.length_nil, Nat.reduceAdd, Nat.reduceSub, Array.replicate_succ, Array.replicate_zero, List.push_toArray, List.append_toArray, List.nil_append, List.cons_append]
  gi_wp2_with (first | refine wpIn_label ?_ | refine scope_in ?_)
  clear c0
  gi_loopw [7] (fun i V => ∃ (j : Nat) (L : List Pc), j ≤ n ∧ i = .int .i64 j ∧ J j L ∧ SL V (.blk B [.slice a n n] 92 :: fldP A p :: L)) (fun i _ => n - (intOf i).toNat)
  case atStart => exact ⟨0, L0, by omega, rfl, h0'.out, hH.out⟩
  case round =>
    clear hH h0'
    obtain ⟨j, L, hj, rfl, hJ, H⟩ := hrel
    have hJ' := Lib.hid hJ
    have hH := Lib.hid H
    clear hJ
    by_cases hjn : j < n
    · obtain rfl := ha (by omega)
      have hjl : j < ys.length := by rw [hl'.out]; exact hjn
      obtain ⟨g1, g2⟩ := hc'.out wr L H.tail j hjl
      clear H
      have hR' := Lib.hid (fun V (h : SL V (.blk B [.slice (some ⟨A, o, none⟩) n n] 92 :: fldP A p :: L)) => hY'.out j (by rw [fldY_length]; exact hjl) V L hJ'.out h)
      have hx : Hid ((fldY p ys)[j]'(by rw [fldY_length]; exact hjl) = #[.agg #[.pointer (some ⟨p, (ys[j]'hjl).1, none⟩), .int .u64 (ys[j]'hjl).2]]) := Lib.hid (by simp [fldY])
      generalize (ys[j]'hjl).1 = q at *
      generalize (ys[j]'hjl).2 = m at *
      generalize (fldY p ys)[j]'(by rw [fldY_length]; exact hjl) = X at *
      obtain ⟨fn, tmps, assign, body, hy, hR⟩ := hR'.out _ (hH.out.alloc [.pointer (some ⟨p, q, none⟩), .int .u64 m] 60).tail
      rw [hx.out] at hy
      have hR2 := Lib.hid hR
      clear hR hR' hx
      gi_wp2_with fail
      refine ⟨rfl, hR2.out.mono ?_⟩
      rintro e w5 (⟨rfl, L', hJ3, H3⟩ | ⟨rfl, L', hZ3, H3⟩)
      · have H3' := Lib.hid H3
        have hJ3' := Lib.hid hJ3
        clear hy hR2 H3 hJ3 hJ' hH g1 g2
        gi_wp2_with fail
        go_roundw
        case rel => exact ⟨j + 1, L', by omega, by go_num, hJ3'.out, H3'.out⟩
        case measure => (simp [intOf]; try omega)
      · have hZ3' := Lib.hid hZ3
        have H3' := Lib.hid H3
        clear hy hR2 H3 hZ3 hJ' hH g1 g2
        gi_wp2_with fail
        repeat (first | rw [Exit.noGoto_ret] | gi_step)
        refine bodyPost_ret (results_none rfl _ _ _) rfl ?_
        exact ⟨⟨_, rfl⟩, .inr ⟨_, _, hZ3'.out, H3'.out⟩⟩
    · obtain rfl : j = n := by omega
      clear H
      gi_wp2_with fail
      repeat (first | rw [Exit.noGoto_normal] | gi_step)
      refine bodyPost_end (results_none rfl _ _ _) rfl ⟨⟨_, rfl⟩, .inl ⟨L, ?_, ?_⟩⟩
      · rw [fldY_length, hl'.out]; exact hJ'.out
      · exact hH.out
/-- The numbers that a kind names: their places, and the most that they may be. -/
def fldN (kind : Int) : List (Nat × Int) := if kind = 1 then [] else if kind = 3 then [(6, 4611686018427387904), (7, 9223372036854775807)] else [(5, 4611686018427387903), (6, 4611686018427387904), (7, 9223372036854775807)]
theorem fields_gives (A B p : Nat) (kind : Int) : GivesS Tryd.prog vfn #[.pointer (some ⟨B, 0, none⟩)] (fldY p (fldN kind)) (fun _ => [.blk B [fldS A kind] 92, fldP A p]) (fun _ => [.blk B [fldS A kind] 92, fldP A p]) := by
  unfold fldS fldN
  by_cases h1 : kind = 1
  · rw [if_pos h1, if_pos h1]
    exact vals_gives A B p none 0 0 [] rfl (by omega) (fun h => absurd rfl h) (fun V L h i hi => by cases hi)
  rw [if_neg h1, if_neg h1]
  by_cases h3 : kind = 3
  · rw [if_pos h3, if_pos h3]
    refine vals_gives A B p (some ⟨A, 2, none⟩) 2 2 _ rfl (by omega) (fun h => rfl) (fun V L h i hi => ?_)
    have : i = 0 ∨ i = 1 := by simp at hi; omega
    rcases this with rfl | rfl
    · exact ⟨h.cell (b := A) (o := 2) (.here _ _) rfl, h.cell (b := A) (o := 3) (.here _ _) rfl⟩
    · exact ⟨h.cell (b := A) (o := 4) (.here _ _) rfl, h.cell (b := A) (o := 5) (.here _ _) rfl⟩
  · rw [if_neg h3, if_neg h3]
    refine vals_gives A B p (some ⟨A, 0, none⟩) 0 3 _ rfl (by omega) (fun h => rfl) (fun V L h i hi => ?_)
    have : i = 0 ∨ i = 1 ∨ i = 2 := by simp at hi; omega
    rcases this with rfl | rfl | rfl
    · exact ⟨h.cell (b := A) (o := 0) (.here _ _) rfl, h.cell (b := A) (o := 1) (.here _ _) rfl⟩
    · exact ⟨h.cell (b := A) (o := 2) (.here _ _) rfl, h.cell (b := A) (o := 3) (.here _ _) rfl⟩
    · exact ⟨h.cell (b := A) (o := 4) (.here _ _) rfl, h.cell (b := A) (o := 5) (.here _ _) rfl⟩
end Go.Proofs.YtilpkfgdlehmpaaDoor

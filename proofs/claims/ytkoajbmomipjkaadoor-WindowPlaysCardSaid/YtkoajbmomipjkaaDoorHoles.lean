/- The walk of Holes. -/
import Derived.Test.YtkoajbmomipjkaaDoorCopy
import Derived.Test.YtkoajbmomipjkaaDoorHolesL
import Derived.Test.YtkoajbmomipjkaaDoorReg
import Derived.Test.YtkoajbmomipjkaaDoorISet
namespace Go.Proofs.YtkoajbmomipjkaaDoor
open Go.RowKit
set_option linter.unusedVariables false
attribute [local go_sem] Oper.semAt_some

theorem elemU : ElemK Tryd.prog 38 22 1 (.int .u64 0) 8 := ⟨by kernel_rfl, by kernel_rfl, rfl, by decide⟩
def uv (l : List Nat) : List Value := l.map fun n : Nat => Value.int .u64 n
theorem uv_length (l : List Nat) : (uv l).length = l.length := by simp [uv]
theorem uv_append (a b : List Nat) : uv (a ++ b) = uv a ++ uv b := by simp [uv]
theorem uv_range (a k : Nat) : uv (List.range' a (k + 1)) = uv (List.range' a k) ++ [.int .u64 ((a + k : Nat) : Int)] := by
  rw [List.range'_concat]; simp [uv]

/-- How far a cell's number is from m. -/
def gapOf (V : World) (b : Nat) (m : Nat) : Nat := match V.cell? ⟨b, 0, none⟩ with
  | some (.int _ z) => (m - z).toNat
  | _ => 0

set_option maxHeartbeats 8000000 in
theorem holes_c {p N : Nat} {x : BitVec 64} {S : Nat → Prop} (hS : ¬ S 0) (W0 : World) {w : World} (ht : Tab W0) (H : SL w (winB p true N (U x) :: [.old W0 S])) (hN : (N : Int) ≤ 4611686018427389000) :
    Calls Tryd.prog 15 #[.pointer (some ⟨p, 0, none⟩)] w fun e w' => ∃ a c, e = .returned (.slice a (holesM N x).length c) ∧
      SL w' (.own 22 1 (.slice a (holesM N x).length c) (holesM N x).length (uv (holesM N x)) :: winB p true N (U x) :: [.old W0 S]) := by
  have hn := Lib.hid (none_c H)
  have h1 := (H.pure (q := .own 22 1 (.slice none 0 0) 0 []) (OwnK.nil _ _ _ _) (fun b h => by cases h)).alloc [.slice none 0 0] 38
  have h2 := h1.alloc [.int .u64 N] 22
  have hsz : (w.alloc (.cells [Value.slice none 0 0].toArray 38)).heap.size = w.heap.size + 1 := by simp
  rw [hsz] at h2
  have hH2 := Lib.hid h2
  have e1 : (w.alloc (.cells #[Value.slice none 0 0] 38)).cell? ⟨p, 1, none⟩ = some (.int .u64 N) := h1.cell (o := 1) (.there (.there (.here _ _))) rfl
  have e2 : ((w.alloc (.cells #[Value.slice none 0 0] 38)).alloc (.cells #[.int .u64 N] 22)).cell? ⟨p, 1, none⟩ = some (.int .u64 N) := h2.cell (o := 1) (.there (.there (.there (.here _ _)))) rfl
  have e3 : ((w.alloc (.cells #[Value.slice none 0 0] 38)).alloc (.cells #[.int .u64 N] 22)).cell? ⟨p, 2, none⟩ = some (.int .u64 (U x)) := h2.cell (o := 2) (.there (.there (.there (.here _ _)))) rfl
  obtain ⟨c0, c1, c2, hfz⟩ := win_cells H
  clear H h1 h2 hsz
  refine calls_of_marks Tryd.func15 rfl ?_
  simp only [Tryd.ntmps15, List.size_toArray, List.length_cons, List.length_nil, Nat.reduceAdd, Nat.reduceSub, Array.replicate_succ, Array.replicate_zero, List.push_toArray, List.append_toArray, List.nil_append, List.cons_append]
  gi_wp2_with (first | refine wpIn_label ?_ | refine scope_in ?_)
  refine ⟨trivial, rfl, (calls_in hn.out).mono ?_⟩
  rintro e w' ⟨rfl, rfl⟩
  clear hn
  gi_wp2_with (first | refine wpIn_label ?_ | refine scope_in ?_)
  generalize ((w.alloc (.cells #[Value.slice none 0 0] 38)).alloc (.cells #[.int .u64 N] 22)) = w2 at *
  generalize w.heap.size + 1 = Ba at *
  generalize w.heap.size = Bo at *
  refine ⟨trivial, rfl, (calls_in (behind_c (N : Int) (U x) w2 hH2.out)).mono ?_⟩
  rintro e w3 ⟨B, rfl, H3⟩
  have H3' := Lib.hid H3
  have hres : holesM N x = (holeF N (Classical.choose (chain_ex x))).2 := rfl
  have hl := Classical.choose_spec (chain_ex x)
  generalize Classical.choose (chain_ex x) = l at *
  have hg := Lib.hid (behind_gives B (N : Int) x l hl W0 ht (by omega) hN hS)
  have hsp := Lib.hid (fun i hi => holeF_spec (N := N) hl i hi)
  have hst := Lib.hid (fun i (hi : i < l.length) => holeF_take (N := N) hi)
  have hll := Lib.hid (show ∀ i ∈ l, i < 64 from hl.lt)
  have hres' := Lib.hid hres
  have hN' := Lib.hid hN
  clear hl ht hN hS hH2 H3 c0 c1 c2 hfz e1 e2 e3 hres
  gi_wp2_with (first | refine wpIn_label ?_ | refine scope_in ?_)
  refine wp_rangeS rfl egB hg.out (by simp)
    (fun i L' => ∃ a c, L' = [.blk Ba [.int .u64 (((holeF N (l.take i)).1 : Nat) : Int)] 22, .blk Bo [.slice a (holeF N (l.take i)).2.length c] 38, .own 22 1 (.slice a (holeF N (l.take i)).2.length c) (holeF N (l.take i)).2.length (uv (holeF N (l.take i)).2), winB p true N (U x)])
    (fun c i L' => False)
    (L0 := [.blk Ba [.int .u64 N] 22, .blk Bo [.slice none 0 0] 38, .own 22 1 (.slice none 0 0) 0 [], winB p true N (U x)]) ⟨none, 0, rfl⟩
    (H3'.out.re (.step (.there (.here _ _)) (.step (.there (.here _ _)) (.step (.there (.here _ _)) (.step (.there (.here _ _)) (.same _)))))) ?_ ?_ ?_
  · rintro i hi V l2 _ T ⟨a, c, rfl⟩ H
    have hil : i < l.length := by simpa using hi
    have hxi : (l.map fun i : Nat => #[Value.int .u64 ((N : Int) + 1 + i)])[i] = #[.int .u64 ((N + 1 + l[i]'hil : Nat) : Int)] := by simp
    rw [hxi]
    obtain ⟨a1, a2, a3, -, -, -⟩ := hsp.out i (by omega)
    have a2 := a2 hil
    have hs := hst.out i hil
    have h64 := hll.out _ (List.getElem_mem hil)
    have hlen : (holeF N (l.take i)).2.length ≤ 5000 := by
      obtain ⟨-, -, -, -, -, a5⟩ := hsp.out i (by omega)
      rw [a5]
      refine Nat.le_trans (List.length_filter_le _ _) ?_
      rw [List.length_range']; omega
    obtain ⟨⟨at1, hs1⟩, hz1⟩ : ∃ z, holeF N (l.take (i + 1)) = z := ⟨_, rfl⟩
    obtain ⟨⟨at0, hs0⟩, hz0⟩ : ∃ z, holeF N (l.take i) = z := ⟨_, rfl⟩
    rw [hz0] at H a1 a2 a3 hs hlen
    rw [hz1] at hs
    dsimp only at H a1 a2 a3 hs hlen
    have hz1' := Lib.hid hz1
    obtain ⟨m, hm⟩ : ∃ m, N + 1 + l[i]'hil = m := ⟨_, rfl⟩
    rw [hm] at a2 hs ⊢
    have hs' := Lib.hid hs
    have hm65 : m ≤ N + 65 := by omega
    clear hz0 hz1 hxi hsp hst hs hm h64 hll hg H3' hil hi
    have hN2 := hN'.out
    gi_wp2_with fail
    refine ⟨_, H, ?_⟩
    clear H
    intro V2 T2 H
    have hH := Lib.hid H
    clear H
    gi_wp2_with (first | refine wpIn_label ?_ | refine scope_in ?_)
    gi_loopw [19] (fun _ V => ∃ (k : Nat) (a : Option Addr) (c : Nat), at0 + k ≤ m ∧ SL V ([.blk Ba [.int .u64 ((at0 + k : Nat) : Int)] 22, .blk Bo [.slice a (hs0.length + k) c] 38, .own 22 1 (.slice a (hs0.length + k) c) (hs0.length + k) (uv (hs0 ++ List.range' at0 k)), winB p true N (U x)] ++ (behP B (N : Int) (U x) W0 S ++ T2)))
      (fun _ V => gapOf V Ba m)
    case atStart =>
      refine ⟨0, a, c, by omega, ?_⟩
      simpa using hH.out
    case round =>
      obtain ⟨k, a, c, hk, H⟩ := hrel
      clear hH
      simp only [List.cons_append, List.nil_append] at H
      have k0 := H.cell (o := 0) (.here _ _) rfl
      have hgap : Hid (gapOf wr Ba m = m - (at0 + k)) := Lib.hid (by unfold gapOf; rw [k0]; simp; omega)
      by_cases hlt : at0 + k < m
      · have d : decide (((at0 + k : Nat) : Int) < (m : Int)) = true := by simp; omega
        have e : IntKind.u64.wrap (((at0 + k : Nat) : Int) + 1) = ((at0 + (k + 1) : Nat) : Int) := by rw [IntKind.wrap_u64]; omega
        obtain ⟨y, hy⟩ : ∃ y, at0 + k = y := ⟨_, rfl⟩
        rw [hy] at H k0 d e hgap hlt
        have hy' := Lib.hid hy
        (have C := H.cells; dsimp only [cellsOf, Pc.cells, cellsFrom, iset, Nat.zero_add, Nat.reduceAdd] at C; (try simp only [true_and] at C); (try simp only [and_true] at C))
        clear k0
        gi_wp2_with (
          gi_at_builtin
          refine sl_appIn (H.alloc [.int .u64 y] 22) rfl _ _ _ rfl elemU _ rfl (.there (.there (.there (.here _ _)))) [.int .u64 y] rfl rfl (rd_newK _ _ _) (by simp [Value.oneCell']) (by simp only [maxLen]; omega) (by omega) (fun h => by cases h) ?_
          intro v' w3 H3 hnil
          obtain ⟨a', c', rfl, -⟩ := OwnK.slice H3.head
          have H := H3.pull (.there (.there (.there (.here _ _))))
          (have C := H.cells; dsimp only [cellsOf, Pc.cells, cellsFrom, iset, Nat.zero_add, Nat.reduceAdd] at C; (try simp only [true_and] at C); (try simp only [and_true] at C))
          obtain ⟨ne1, ne2⟩ := H.ne (.here _ _) (.there (.there (.here _ _)))
          clear H3 hnil)
        have H4 := ((H.setCell 0 (.slice a' (hs0.length + k + 1) c')).re (L' := [.blk Ba [.int .u64 (y : Int)] 22, .blk Bo [.slice a' (hs0.length + k + 1) c'] 38, .own 22 1 (.slice a' (hs0.length + k + 1) c') (hs0.length + k + 1) (uv (hs0 ++ List.range' at0 k) ++ [.int .u64 y]), winB p true N (U x)] ++ (behP B (N : Int) (U x) W0 S ++ T2))
          (.step (.there (.there (.there (.here _ _)))) (.step (.here _ _) (.step (.here _ _) (.drop (.same _)))))).setCell 0 (.int .u64 ((at0 + (k + 1) : Nat) : Int))
        have hH4 := Lib.hid H4
        clear H4 H C ne1 ne2
        go_roundw
        case rel =>
          have e1 : uv (hs0 ++ List.range' at0 (k + 1)) = uv (hs0 ++ List.range' at0 k) ++ [.int .u64 y] := by rw [uv_append, uv_range, hy'.out, ← List.append_assoc, ← uv_append]
          have hc : ((at0 : Int) + ((k : Int) + 1)) = ((at0 + (k + 1) : Nat) : Int) := by omega
          refine ⟨k + 1, a', c', by omega, ?_⟩
          rw [hc, e1]
          exact hH4.out
        case measure =>
          rw [hgap.out]
          have hc : ((at0 : Int) + ((k : Int) + 1)) = ((at0 + (k + 1) : Nat) : Int) := by omega
          rw [hc]
          have g0 := hH4.out.cell (o := 0) (.here _ _) rfl
          unfold gapOf
          rw [g0]
          simp only
          omega
      · have hym : at0 + k = m := by omega
        have e0 : (hs0 ++ List.range' at0 k) = hs1 ∧ at1 = m + 1 := by
          have h := hs'.out
          rw [Prod.mk.injEq] at h
          refine ⟨?_, h.1⟩
          rw [h.2, show m - at0 = k by omega]
        obtain ⟨e1, e2⟩ := e0
        have e3 : hs0.length + k = hs1.length := by rw [← e1]; simp
        rw [hym, e1, e3] at H
        rw [hym] at k0 hlt
        have e4 := Lib.hid e2
        have e : IntKind.u64.wrap ((m : Int) + 1) = ((m + 1 : Nat) : Int) := by rw [IntKind.wrap_u64]; omega
        have f0 := H.free (.here _ _) 0
        have hH4 := Lib.hid (H.setCell 0 (.int .u64 ((m + 1 : Nat) : Int)))
        clear H hgap hs' hk e1 e2 e3 hym
        gi_wp2_with (first | refine wpIn_label ?_ | refine scope_in ?_)
        refine ⟨_, ⟨a, c, rfl⟩, ?_⟩
        rw [hz1'.out, e4.out]
        exact hH4.out
  · rintro V _ D ⟨a, c, rfl⟩ H
    have hlen : (l.map fun i : Nat => #[Value.int .u64 ((N : Int) + 1 + i)]).length = l.length := by simp
    rw [hlen, List.take_length] at H
    have hr : Hid (holesM N x = (holeF N l).2) := hres'
    obtain ⟨⟨at1, hs1⟩, hz1⟩ : ∃ z, holeF N l = z := ⟨_, rfl⟩
    rw [hz1] at H hr
    dsimp only at H
    have hr' : Hid (holesM N x = hs1) := hr
    have hH := Lib.hid H
    simp only [behP, List.cons_append, List.nil_append] at H
    have k0 := H.cell (o := 0) (.there (.there (.here _ _))) rfl
    clear hlen hz1 hr hres' hsp hst hg hll H H3'
    simp only [Exit.inBlock, Exit.then]
    rename_i hK
    refine hK _ _ ?_
    clear hK
    gi_wp2_with (first | refine wpIn_label ?_ | refine scope_in ?_)
    repeat (first | rw [Exit.noGoto_ret] | gi_step)
    refine leaveS (v := .slice a hs1.length c) hH.out ?_ ?_
    · intro V H
      simp [results, Tryd.results15, go_sem]
    · intro V H
      refine ⟨a, c, by rw [hr'.out], ?_⟩
      rw [hr'.out]
      exact H.re (.step (.there (.there (.here _ _))) (.step (.there (.there (.here _ _))) (.step (.there (.there (.there (.here _ _)))) (.drop (.drop (.drop (.same _)))))))
  · rintro c i V _ D h H
    exact h.elim
end Go.Proofs.YtkoajbmomipjkaaDoor

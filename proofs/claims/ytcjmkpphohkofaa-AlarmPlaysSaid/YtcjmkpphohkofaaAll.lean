/- all: the iterator over the alarms; Next. -/
import Derived.Test.YtcjmkpphohkofaaTold
import Derived.Test.YtcjmkpphohkofaaSLRange
import Derived.Test.YtcjmkpphohkofaaCalm
namespace Go.Proofs.Ytcjmkpphohkofaa
open Go.RowKit Go.Shelf
set_option linter.unusedVariables false

theorem all_c (p : Nat) (w : World) {L : List Pc} (H : SL w L) :
    Calls Try.prog 32 #[ptrV p] w fun e w' => ∃ B, e = .returned (.func (.func 49) #[] #[ptrV B]) ∧ SL w' (.blk B [ptrV p] 25 :: L) := by
  have hH := Lib.hid (H.alloc [ptrV p] 25)
  clear H
  unfold ptrV at *
  go_enter Try.func32, Try.ntmps32
  go_wp2_with fail
  go_ret
  exact ⟨_, rfl, hH.out⟩

/-- What the iterator hands over. -/
def alX (g n : Nat) : List (Array Value) := (List.range n).map fun i => #[.pointer (some ⟨g, i * 4, none⟩)]
theorem alX_length (g n : Nat) : (alX g n).length = n := by simp [alX]
theorem alX_at (g n : Nat) {i : Nat} (hi : i < (alX g n).length) : (alX g n)[i]'hi = #[.pointer (some ⟨g, i * 4, none⟩)] := by simp [alX]
abbrev ckB (p : Nat) (a b : Int) (sl : Value) : Pc := .blk p [.int .i64 a, .int .i64 b, sl] 54
/-- The pieces while it runs. -/
def allP (B p : Nat) (a b : Int) (sl : Value) (l : List Al) : List Pc := [.blk B [ptrV p] 25, ckB p a b sl, .own 59 4 sl l.length (alC l)]
theorem egA : ∀ args w, (callFunc 49 args).run Try.prog w = .ok (.enter 49 args) w := enters_of Try.func49 (by kernel_rfl) rfl

theorem all_gives (B p : Nat) (a b : Int) (sa : Option Addr) (sc g n : Nat) (T : Nat → List Al) (hT : ∀ i, (T i).length = n) (hn : n ≤ 256) (hsl : n ≠ 0 → sa = some ⟨g, 0, none⟩ ∧ n ≤ sc) :
    GivesS Try.prog 49 #[.pointer (some ⟨B, 0, none⟩)] (alX g n) (fun i => allP B p a b (.slice sa n sc) (T i)) (fun i => allP B p a b (.slice sa n sc) (T (i + 1))) := by
  intro l J Z W L0 hY h0 H
  have hY' := Lib.hid hY
  have h0' := Lib.hid h0
  have hH := Lib.hid H
  have hmx : Try.prog.follows .mixedOrders = true := by kernel_rfl
  simp only [allP, List.cons_append] at H
  have c0 := H.cell (b := B) (o := 0) (.here _ _) rfl
  have c1 := H.cell (b := p) (o := 2) (.there (.here _ _)) rfl
  clear hY h0 H
  unfold ptrV at c0
  refine callsIn_of_wp Try.func49 rfl trivial ?_ rfl
  simp only [Try.ntmps49, List.size_toArray, List.length_cons, List.length_nil, Nat.reduceAdd, Nat.reduceSub, Array.replicate_succ, Array.replicate_zero, List.push_toArray, List.append_toArray, List.nil_append, List.cons_append]
  gi_wp2_with (first | refine wpIn_label ?_ | refine scope_in ?_)
  gi_loopw [9] (fun i V => ∃ (j : Nat) (L : List Pc), j ≤ n ∧ i = .int .i64 j ∧ J j L ∧ SL V (allP B p a b (.slice sa n sc) (T j) ++ L)) (fun i _ => n - (intOf i).toNat)
  case atStart => exact ⟨0, L0, by omega, rfl, h0'.out, hH.out⟩
  case round =>
    clear c0 c1 hH h0'
    obtain ⟨j, L, hj, rfl, hJ, H⟩ := hrel
    have hJ' := Lib.hid hJ
    have hH := Lib.hid H
    simp only [allP, List.cons_append] at H
    have c0 := H.cell (b := B) (o := 0) (.here _ _) rfl
    have c1 := H.cell (b := p) (o := 2) (.there (.here _ _)) rfl
    clear H hJ
    unfold ptrV at c0
    by_cases hjn : j < n
    · obtain ⟨rfl, hnc⟩ := hsl (by omega)
      obtain ⟨fn, tmps, assign, body, hy, hR⟩ := hY'.out j (by rw [alX_length]; exact hjn) wr L hJ'.out hH.out
      rw [alX_at] at hy
      have hR' := Lib.hid hR
      have hjc : j + 1 ≤ sc := by omega
      clear hR
      gi_wp2_with fail
      refine ⟨rfl, hR'.out.mono ?_⟩
      rintro e w5 (⟨rfl, L', hJ3, H3⟩ | ⟨rfl, L', hZ3, H3⟩)
      · have H3' := Lib.hid H3
        have hJ3' := Lib.hid hJ3
        clear hy hR' H3 hJ3 hJ' hH c0 c1
        gi_wp2_with fail
        go_roundw
        case rel => exact ⟨j + 1, L', by omega, by go_num, hJ3'.out, H3'.out⟩
        case measure => (simp [intOf]; try omega)
      · have hZ3' := Lib.hid hZ3
        have H3' := Lib.hid H3
        clear hy hR' H3 hZ3 hJ' hH c0 c1
        gi_wp2_with fail
        repeat (first | rw [Exit.noGoto_ret] | gi_step)
        refine bodyPost_ret (results_none rfl _ _ _) rfl ?_
        exact ⟨⟨_, rfl⟩, .inr ⟨_, _, hZ3'.out, H3'.out⟩⟩
    · obtain rfl : j = n := by omega
      gi_wp2_with fail
      repeat (first | rw [Exit.noGoto_normal] | gi_step)
      refine bodyPost_end (results_none rfl _ _ _) rfl ⟨⟨_, rfl⟩, .inl ⟨L, ?_, ?_⟩⟩
      · rw [alX_length]; exact hJ'.out
      · rw [alX_length]; exact hH.out
end Go.Proofs.Ytcjmkpphohkofaa

/- The walks of barrier's Missing and Has. -/
import Derived.Test.YtejgkehcplajhaaBar3
namespace Go.Proofs.Ytejgkehcplajhaa
open Go.RowKit
set_option linter.unusedVariables false

/-- Who has not passed the frame under way. -/
def missM (f n : Int) (ms : List Int) (ps : Int → Bool) : List Int := if f = n then [] else missL ms ps
theorem missM_len (f n : Int) (ms : List Int) (ps : Int → Bool) : (missM f n ms ps).length ≤ ms.length := by
  unfold missM missL; split
  · simp
  · exact List.length_filter_le _ _

theorem missing_gives' (B p len c m : Nat) (a : Option Addr) (fr f n : Int) (ms : List Int) (ps : Int → Bool) (hlen : 1 ≤ len) (hl : len ≤ 1000000) :
    GivesS Try.prog 33 #[.pointer (some ⟨B, 0, none⟩)] ((missM f n ms ps).map fun x => #[.int .i64 x]) (fun _ => missP B p len c m a fr f n ms ps) (fun _ => missP B p len c m a fr f n ms ps) := by
  unfold missM
  by_cases h : f = n
  · subst h; rw [if_pos rfl]; exact missing_none B p len c m a fr f ms ps hlen
  · rw [if_neg h]; exact missing_gives B p len c m a fr f n ms ps hlen hl h

theorem egM : ∀ args w, (callFunc 33 args).run Try.prog w = .ok (.enter 33 args) w := enters_of Try.func33 (by kernel_rfl) rfl

theorem Missing_c (p len c m : Nat) (a : Option Addr) (fr f n : Int) (ms : List Int) (ps : Int → Bool) (hlen : 1 ≤ len) (hl : ms.length ≤ 100) (hlm : len ≤ 1000000) (w : World) {L : List Pc}
    (H : SL w (barB p (.slice a len c) fr f n m :: iset m ps :: .own 3 1 (.slice a len c) len (iv ms) :: L)) :
    Calls Try.prog 19 #[.pointer (some ⟨p, 0, none⟩)] w fun e w' => ∃ a' c', e = .returned (.slice a' (missM f n ms ps).length c') ∧
      SL w' (.own 3 1 (.slice a' (missM f n ms ps).length c') (missM f n ms ps).length (iv (missM f n ms ps)) :: barB p (.slice a len c) fr f n m :: iset m ps :: .own 3 1 (.slice a len c) len (iv ms) :: L) := by
  have hm := Lib.hid (missing_c p w H)
  have hg := Lib.hid (fun B => missing_gives' B p len c m a fr f n ms ps hlen hlm)
  have hml := missM_len f n ms ps
  go_enter Try.func19, Try.ntmps19
  go_wp2_with fail
  refine hm.out.mono ?_
  rintro e w1 ⟨B, rfl, H1⟩
  have hc := Lib.hid (collect_c (hg.out B) egM (by omega) w1 (L := L) H1)
  clear hg hm H H1
  go_wp2_with fail
  refine hc.out.mono ?_
  rintro e w2 ⟨a', c', rfl, H2⟩
  go_wp2_with fail
  go_ret
  exact ⟨a', c', rfl, H2.re (.step (.here _ _) (.drop (.same _)))⟩

/-- Whether a member has passed a frame. -/
def hasM (fr f : Int) (ms : List Int) (ps : Int → Bool) (x k : Int) : Bool := decide (x ∈ ms) && decide (fr ≤ k) && (decide (k < f) || (decide (k = f) && ps x))

set_option maxHeartbeats 1000000 in
theorem Has_c (p len c m : Nat) (a : Option Addr) (fr f n x k : Int) (ms : List Int) (ps : Int → Bool) (hlen : 1 ≤ len) (hlm : len ≤ 1000000) (w : World) {L : List Pc}
    (H : SL w (barB p (.slice a len c) fr f n m :: iset m ps :: .own 3 1 (.slice a len c) len (iv ms) :: L)) :
    Calls Try.prog 22 #[.pointer (some ⟨p, 0, none⟩), .int .i64 x, .int .i64 k] w fun e w' => e = .returned (.bool (hasM fr f ms ps x k)) ∧ w = w' := by
  unfold barB at H
  (have C := H.cells; dsimp only [cellsOf, Pc.cells, cellsFrom, iset, Nat.zero_add, Nat.reduceAdd] at C; (try simp only [true_and, and_true] at C))
  have hr := OwnK.rdI (H.ownOf (by first | exact .here _ _ | exact .there (.here _ _) | exact .there (.there (.here _ _)) | exact .there (.there (.there (.here _ _))) | exact .there (.there (.there (.there (.here _ _)))) | exact .there (.there (.there (.there (.there (.here _ _))))) | exact .there (.there (.there (.there (.there (.there (.here _ _)))))) | exact .there (.there (.there (.there (.there (.there (.there (.here _ _))))))) | exact .there (.there (.there (.there (.there (.there (.there (.there (.here _ _)))))))) | exact .there (.there (.there (.there (.there (.there (.there (.there (.there (.here _ _))))))))) | exact .there (.there (.there (.there (.there (.there (.there (.there (.there (.there (.here _ _)))))))))) | exact .there (.there (.there (.there (.there (.there (.there (.there (.there (.there (.there (.here _ _))))))))))) | exact .there (.there (.there (.there (.there (.there (.there (.there (.there (.there (.there (.there (.here _ _)))))))))))) | exact .there (.there (.there (.there (.there (.there (.there (.there (.there (.there (.there (.there (.there (.here _ _)))))))))))))))
  obtain ⟨-, hl, hrd⟩ := hr
  have hno := Lib.hid (none_c p len c a w C.1.1 hlen)
  have hco := Lib.hid (contains_c x ms a c w (by omega) hrd)
  rw [← hl] at hco
  have hlk := iset_lookup (H.iset (by first | exact .here _ _ | exact .there (.here _ _) | exact .there (.there (.here _ _)) | exact .there (.there (.there (.here _ _))) | exact .there (.there (.there (.there (.here _ _)))) | exact .there (.there (.there (.there (.there (.here _ _))))) | exact .there (.there (.there (.there (.there (.there (.here _ _)))))) | exact .there (.there (.there (.there (.there (.there (.there (.here _ _))))))) | exact .there (.there (.there (.there (.there (.there (.there (.there (.here _ _)))))))) | exact .there (.there (.there (.there (.there (.there (.there (.there (.there (.here _ _))))))))) | exact .there (.there (.there (.there (.there (.there (.there (.there (.there (.there (.here _ _)))))))))) | exact .there (.there (.there (.there (.there (.there (.there (.there (.there (.there (.there (.here _ _))))))))))) | exact .there (.there (.there (.there (.there (.there (.there (.there (.there (.there (.there (.there (.here _ _)))))))))))) | exact .there (.there (.there (.there (.there (.there (.there (.there (.there (.there (.there (.there (.there (.here _ _))))))))))))))) Try.underlying63 Try.underlying3 hzI x
  have hd : Hid (hasM fr f ms ps x k = (decide (x ∈ ms) && decide (fr ≤ k) && (decide (k < f) || (decide (k = f) && ps x)))) := Lib.hid rfl
  clear H hrd hl
  by_cases h1 : x ∈ ms
  · rw [show decide (x ∈ ms) = true by simpa using h1] at hco hd
    by_cases h2 : k < fr
    · have hf := Lib.hid (show hasM fr f ms ps x k = false by rw [hd.out, show decide (fr ≤ k) = false by simp; omega]; rfl)
      clear h1 hd
      go_enter Try.func22, Try.ntmps22
      go_wp2_with (first | (go_at_call 25; refine hno.out.mono ?_; rintro e w' ⟨rfl, rfl⟩) | (go_at_call 26; refine hco.out.mono ?_; rintro e w' ⟨rfl, rfl⟩))
      go_ret
      exact ⟨by rw [hf.out]; rfl, rfl⟩
    · rw [show decide (fr ≤ k) = true by simp; omega] at hd
      by_cases h3 : k < f
      · have hf := Lib.hid (show hasM fr f ms ps x k = true by rw [hd.out, show decide (k < f) = true by simpa using h3]; rfl)
        clear h1 hd
        go_enter Try.func22, Try.ntmps22
        go_wp2_with (first | (go_at_call 25; refine hno.out.mono ?_; rintro e w' ⟨rfl, rfl⟩) | (go_at_call 26; refine hco.out.mono ?_; rintro e w' ⟨rfl, rfl⟩))
        go_ret
        exact ⟨by rw [hf.out]; rfl, rfl⟩
      · by_cases h4 : k = f
        · have hb3 : decide (k < f) = false := by simpa using h3
          have hkf : (k == f) = true := by simpa using h4
          have hf := Lib.hid (show hasM fr f ms ps x k = ps x by rw [hd.out, show decide (k < f) = false by simpa using h3, show decide (k = f) = true by simpa using h4]; rfl)
          clear h1 hd h4
          cases hp : ps x
          · rw [hp] at hf hlk
            go_enter Try.func22, Try.ntmps22
            go_wp2_with (first | (go_at_call 25; refine hno.out.mono ?_; rintro e w' ⟨rfl, rfl⟩) | (go_at_call 26; refine hco.out.mono ?_; rintro e w' ⟨rfl, rfl⟩))
            go_ret
            exact ⟨by rw [hf.out]; rfl, rfl⟩
          · rw [hp] at hf hlk
            go_enter Try.func22, Try.ntmps22
            go_wp2_with (first | (go_at_call 25; refine hno.out.mono ?_; rintro e w' ⟨rfl, rfl⟩) | (go_at_call 26; refine hco.out.mono ?_; rintro e w' ⟨rfl, rfl⟩))
            go_ret
            exact ⟨by rw [hf.out]; rfl, rfl⟩
        · have hb3 : decide (k < f) = false := by simpa using h3
          have hkf : (k == f) = false := by simpa using h4
          have hf := Lib.hid (show hasM fr f ms ps x k = false by rw [hd.out, show decide (k < f) = false by simpa using h3, show decide (k = f) = false by simpa using h4]; rfl)
          clear h1 hd h4
          go_enter Try.func22, Try.ntmps22
          go_wp2_with (first | (go_at_call 25; refine hno.out.mono ?_; rintro e w' ⟨rfl, rfl⟩) | (go_at_call 26; refine hco.out.mono ?_; rintro e w' ⟨rfl, rfl⟩))
          go_ret
          exact ⟨by rw [hf.out]; rfl, rfl⟩
  · rw [show decide (x ∈ ms) = false by simpa using h1] at hco hd
    have hf := Lib.hid (show hasM fr f ms ps x k = false by rw [hd.out]; rfl)
    clear h1 hd
    go_enter Try.func22, Try.ntmps22
    go_wp2_with (first | (go_at_call 25; refine hno.out.mono ?_; rintro e w' ⟨rfl, rfl⟩) | (go_at_call 26; refine hco.out.mono ?_; rintro e w' ⟨rfl, rfl⟩))
    go_ret
    exact ⟨by rw [hf.out]; rfl, rfl⟩
end Go.Proofs.Ytejgkehcplajhaa

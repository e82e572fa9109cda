/- The walks of the reference's Less and in. -/
import Derived.Test.YtaibdcglhibglaaMemL
namespace Go.Proofs.Ytaibdcglhibglaa
open Go.RowKit
set_option linter.unusedVariables false

/-- Whether an epoch is less than another one. -/
def lessE (N By M Cy : Int) : Bool := decide (N < M) || (decide (N = M) && decide (By < Cy))

theorem refLess_c (N By M Cy : Int) (w : World) : Calls Try.prog 28 #[.agg #[.int .u32 N, .int .i64 By], .agg #[.int .u32 M, .int .i64 Cy]] w fun e w' => e = .returned (.bool (lessE N By M Cy)) ∧ Kp no w w' := by
  have H := ((SL.start w).alloc [.int .u32 N, .int .i64 By] 31).alloc [.int .u32 M, .int .i64 Cy] 31
  have hk := Lib.hid (H.kp (.there (.there (.here _ _))))
  obtain ⟨q1, e1⟩ : ∃ q, decide (N < M) = q := ⟨_, rfl⟩
  obtain ⟨q2, e2⟩ : ∃ q, decide (N = M) = q := ⟨_, rfl⟩
  obtain ⟨q3, e3⟩ : ∃ q, decide (By < Cy) = q := ⟨_, rfl⟩
  have hr : Hid (lessE N By M Cy = (q1 || (q2 && q3))) := Lib.hid (by subst e1 e2 e3; rfl)
  have e2' : (N == M) = q2 := by rw [← e2]; rfl
  clear H e2
  go_enter Try.func28, Try.ntmps28
  cases q1
  · cases q2
    · go_wp2_with fail
      go_ret
      exact ⟨by rw [hr.out]; rfl, hk.out⟩
    · go_wp2_with fail
      go_ret
      exact ⟨by rw [hr.out]; simp, hk.out⟩
  · go_wp2_with fail
    go_ret
    exact ⟨by rw [hr.out]; rfl, hk.out⟩

theorem refIn_c (x : Int) (l : List Int) (a : Option Addr) (c : Nat) (w : World) (hl : l.length ≤ 1000000) (hr : RdI w a l) :
    Calls Try.prog 50 #[.slice a l.length c, .int .i64 x] w fun e w' => e = .returned (.bool (decide (x ∈ l))) ∧ w = w' := by
  have hr' := Lib.hid hr
  obtain ⟨n, hn⟩ : ∃ n, l.length = n := ⟨_, rfl⟩
  have hn' := Lib.hid hn
  rw [hn] at hl ⊢
  clear hr hn
  go_enter Try.func50, Try.ntmps50
  go_wp2_with fail
  go_loop [5] (fun i => ∃ j : Nat, j ≤ n ∧ i = .int .i64 j ∧ Hid (∀ k (h : k < j) (h' : k < l.length), l[k]'h' ≠ x)) (fun i => n - (intOf i).toNat)
  case atStart => exact ⟨0, by omega, rfl, Lib.hid (by intro k h; omega)⟩
  case round =>
    obtain ⟨j, hj, rfl, hno⟩ := hrel
    by_cases hjn : j < n
    · have hjl : j < l.length := by rw [hn'.out]; exact hjn
      obtain ⟨b, o, rfl, hc⟩ := hr'.out.cell hjl
      by_cases hx : l[j]'hjl = x
      · have hfin := Lib.hid (show decide (x ∈ l) = true from decide_eq_true (by rw [← hx]; exact List.getElem_mem hjl))
        have hxb : (l[j]'hjl == x) = true := by simpa using hx
        clear hx hno
        generalize l[j]'hjl = y at *
        go_wp2_with fail
        go_ret
        exact ⟨by rw [hfin.out]; rfl, rfl⟩
      · have hno' := Lib.hid (show ∀ k (h : k < j + 1) (h' : k < l.length), l[k]'h' ≠ x from fun k hk h' => by
          by_cases e : k = j
          · subst e; exact hx
          · exact hno.out k (by omega) h')
        have hxb : (l[j]'hjl == x) = false := by simpa using hx
        clear hx hno
        generalize l[j]'hjl = y at *
        go_wp2_with fail
        go_round
        case rel => exact ⟨j + 1, by omega, by go_num, hno'⟩
        case measure => (simp [intOf]; try omega)
    · obtain rfl : j = n := by omega
      have hfin := Lib.hid (show decide (x ∈ l) = false from decide_eq_false fun hm => by
        obtain ⟨k, hk, e⟩ := List.mem_iff_getElem.1 hm
        exact hno.out k (by rw [← hn'.out]; exact hk) hk e)
      go_wp2_with fail
      go_ret
      exact ⟨by rw [hfin.out]; rfl, rfl⟩
end Go.Proofs.Ytaibdcglhibglaa

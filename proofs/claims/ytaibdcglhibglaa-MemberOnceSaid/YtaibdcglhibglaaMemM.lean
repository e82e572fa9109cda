/- The walk of May. -/
import Derived.Test.YtaibdcglhibglaaMemL
namespace Go.Proofs.Ytaibdcglhibglaa
open Go.RowKit
set_option linter.unusedVariables false

/-- Whether a view may be. -/
def mayM (By : Int) (l : List Int) (nodes : Int) : Bool := decide (1 ≤ nodes ∧ nodes ≤ 64) && (risingI l nodes && decide (l.getD 0 0 = By))

theorem rising_pos {l : List Int} {nodes : Int} (h : risingI l nodes = true) : 0 < l.length := by
  unfold risingI at h
  exact (of_decide_eq_true h).1

set_option maxHeartbeats 4000000 in
theorem may_c (M By nodes : Int) (l : List Int) (a : Option Addr) (c : Nat) (w : World) (hl : l.length ≤ 1000000) (hr : RdI w a l) :
    Calls Try.prog 30 #[.agg #[.int .u32 M, .int .i64 By, .slice a l.length c], .int .i64 nodes] w fun r w' => r = .returned (.bool (mayM By l nodes)) ∧ Kp no w w' := by
  have hH := Lib.hid ((SL.start w).alloc [.int .u32 M, .int .i64 By, .slice a l.length c] 34)
  have hri := Lib.hid (fun V (h : Kp no w V) => rising_c l nodes a c V hl (hr.no h))
  have hr0 : Hid (risingI l nodes = true → ∃ b o, a = some ⟨b, o, none⟩ ∧ ∀ V, Kp no w V → V.cell? ⟨b, o, none⟩ = some (.int .i64 (l.getD 0 0))) := Lib.hid (fun h => by
    obtain ⟨b, o, h1, h2⟩ := hr 0 (rising_pos h)
    exact ⟨b, o, h1, fun V hk => hk.cell h2 (fun h => h)⟩)
  have hm : Hid (mayM By l nodes = (decide (1 ≤ nodes ∧ nodes ≤ 64) && (risingI l nodes && decide (l.getD 0 0 = By)))) := Lib.hid rfl
  have hpos : Hid (risingI l nodes = true → 0 < l.length) := Lib.hid rising_pos
  obtain ⟨len, hlen⟩ : ∃ len, l.length = len := ⟨_, rfl⟩
  rw [hlen] at hH hri hpos ⊢
  generalize l.getD 0 0 = y at *
  generalize risingI l nodes = q at *
  have key : ∀ (P : Prop), P → P := fun _ h => h
  clear hr hl hlen key
  by_cases h1 : nodes < 1
  · have e1 : decide (1 ≤ nodes) = false := decide_eq_false (by omega)
    rw [decide_eq_false (by omega)] at hm
    go_enter Try.func30, Try.ntmps30
    go_wp2_with fail
    go_quiet (fail)
    have H3 := Lib.hid (hH.out.drewN nq)
    go_wp2_with fail
    go_ret
    exact ⟨by rw [hm.out]; rfl, H3.out.kp (.there (.here _ _))⟩
  have h1' : 1 ≤ nodes := by omega
  clear h1
  by_cases h2 : 64 < nodes
  · have e2 : decide (nodes ≤ 64) = false := decide_eq_false (by omega)
    rw [decide_eq_false (by omega)] at hm
    go_enter Try.func30, Try.ntmps30
    go_wp2_with fail
    go_quiet (fail)
    have H3 := Lib.hid (hH.out.drewN nq)
    go_wp2_with fail
    go_ret
    exact ⟨by rw [hm.out]; rfl, H3.out.kp (.there (.here _ _))⟩
  have h2' : nodes ≤ 64 := by omega
  clear h2
  rw [decide_eq_true ⟨h1', h2'⟩] at hm
  go_enter Try.func30, Try.ntmps30
  go_wp2_with fail
  generalize w.alloc (.cells #[.int .u32 M, .int .i64 By, .slice a len c] 34) = w2 at *
  generalize w.heap.size = b1 at *
  have c1 := hH.out.cell (o := 1) (.here _ _) rfl
  have c2 := hH.out.cell (o := 2) (.here _ _) rfl
  have hkp := Lib.hid (fun n => (hH.out.drewN n).kp (.there (.here _ _)))
  cases q
  · go_quiet ((go_at_call 35; exact quiet_eq (hri.out _ (hkp.out _))))
    have H3 := Lib.hid (hkp.out nq)
    go_wp2_with fail
    go_ret
    exact ⟨by rw [hm.out]; rfl, H3.out⟩
  · obtain ⟨b, o, rfl, hc⟩ := hr0.out rfl
    have hcc := hc w2 (hH.out.kp (.there (.here _ _)))
    have hp := hpos.out rfl
    obtain ⟨e, he⟩ : ∃ e, decide (y = By) = e := ⟨_, rfl⟩
    have heq : (y == By) = e := by rw [← he]; rfl
    rw [he] at hm
    clear hc he
    go_quiet ((go_at_call 35; exact quiet_eq (hri.out _ (hkp.out _))))
    have H3 := Lib.hid (hkp.out nq)
    go_wp2_with fail
    go_ret
    exact ⟨by rw [hm.out]; simp, H3.out⟩
end Go.Proofs.Ytaibdcglhibglaa

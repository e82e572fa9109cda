/- A member in memory; the walks of the small functions. -/
import Derived.Test.YtaibdcglhibglaaIntSl
import Derived.WalkMore
import Derived.IntWalk
import Derived.StillTailTactics
namespace Go.Proofs.Ytaibdcglhibglaa
open Go.RowKit
set_option linter.unusedVariables false

/-- A member: itself, how many nodes, the display; its view (epoch N By, slice), the greatest epoch, whether it owes word, who joined, the count. -/
def memB (p : Nat) (self nodes disp N By : Int) (s : Value) (gN gBy : Int) (owes : Bool) (j : Value) (count : Int) : Pc :=
  .blk p [.int .i64 self, .int .i64 nodes, .int .i64 disp, .int .u32 N, .int .i64 By, s, .int .u32 gN, .int .i64 gBy, .bool owes, j, .int .i64 count] 74

def cmpI (a b : Int) : Int := if a < b then -1 else if b < a then 1 else 0
/-- The first that is not nothing. -/
def orL : List Int → Int
  | [] => 0
  | x :: l => if x = 0 then orL l else x
/-- Which of two epochs is less. -/
def cmpE (N By M Cy : Int) : Int := orL [cmpI N M, cmpI By Cy]

theorem orL_zero {l : List Int} (h : ∀ x ∈ l, x = 0) : orL l = 0 := by
  induction l with
  | nil => rfl
  | cons x l ih =>
    rw [orL, if_pos (h x (by simp))]
    exact ih fun y hy => h y (by simp [hy])
theorem orL_at : ∀ {l : List Int} {j : Nat} (hj : j < l.length), (∀ k (h : k < j), l[k]'(by omega) = 0) → l[j] ≠ 0 → orL l = l[j]
  | [], j, hj, _, _ => by simp at hj
  | x :: l, 0, _, _, h => by
    have h : x ≠ 0 := h
    rw [orL, if_neg h]; rfl
  | x :: l, j + 1, hj, hz, h => by
    have h0 := hz 0 (by omega)
    have h0 : x = 0 := h0
    rw [orL, if_pos h0]
    exact orL_at (by simpa using hj) (fun k hk => by have := hz (k + 1) (by omega); simpa using this) (by simpa using h)

theorem nanI_c (a : Int) (w : World) : Calls Try.prog 54 #[.int .i64 a] w fun r w' => r = .returned (.bool false) ∧ w = w' := by
  go_enter Try.func54, Try.ntmps54
  go_wp2_with fail
  go_ret
  exact ⟨by simp, rfl⟩
theorem nanU_c (a : Int) (w : World) : Calls Try.prog 53 #[.int .u32 a] w fun r w' => r = .returned (.bool false) ∧ w = w' := by
  go_enter Try.func53, Try.ntmps53
  go_wp2_with fail
  go_ret
  exact ⟨by simp, rfl⟩

theorem compareI_c (a b : Int) (w : World) : Calls Try.prog 41 #[.int .i64 a, .int .i64 b] w fun r w' => r = .returned (.int .i64 (cmpI a b)) ∧ w = w' := by
  have h1 := Lib.hid (fun a w => nanI_c a w)
  obtain ⟨q1, e1⟩ : ∃ q, decide (a < b) = q := ⟨_, rfl⟩
  obtain ⟨q2, e2⟩ : ∃ q, decide (b < a) = q := ⟨_, rfl⟩
  have hr : Hid (cmpI a b = if q1 = true then -1 else if q2 = true then 1 else 0) := Lib.hid (by subst e1 e2; simp [cmpI])
  go_enter Try.func41, Try.ntmps41
  go_wp2_with fail
  refine (h1.out _ _).mono ?_
  rintro e w' ⟨rfl, rfl⟩
  go_wp2_with fail
  refine (h1.out _ _).mono ?_
  rintro e w' ⟨rfl, rfl⟩
  cases q1
  · cases q2
    · go_wp2_with fail
      go_ret
      exact ⟨by rw [hr.out]; rfl, rfl⟩
    · go_wp2_with fail
      go_ret
      exact ⟨by rw [hr.out]; rfl, rfl⟩
  · go_wp2_with fail
    go_ret
    exact ⟨by rw [hr.out]; rfl, rfl⟩
theorem compareU_c (a b : Int) (w : World) : Calls Try.prog 40 #[.int .u32 a, .int .u32 b] w fun r w' => r = .returned (.int .i64 (cmpI a b)) ∧ w = w' := by
  have h1 := Lib.hid (fun a w => nanU_c a w)
  obtain ⟨q1, e1⟩ : ∃ q, decide (a < b) = q := ⟨_, rfl⟩
  obtain ⟨q2, e2⟩ : ∃ q, decide (b < a) = q := ⟨_, rfl⟩
  have hr : Hid (cmpI a b = if q1 = true then -1 else if q2 = true then 1 else 0) := Lib.hid (by subst e1 e2; simp [cmpI])
  go_enter Try.func40, Try.ntmps40
  go_wp2_with fail
  refine (h1.out _ _).mono ?_
  rintro e w' ⟨rfl, rfl⟩
  go_wp2_with fail
  refine (h1.out _ _).mono ?_
  rintro e w' ⟨rfl, rfl⟩
  cases q1
  · cases q2
    · go_wp2_with fail
      go_ret
      exact ⟨by rw [hr.out]; rfl, rfl⟩
    · go_wp2_with fail
      go_ret
      exact ⟨by rw [hr.out]; rfl, rfl⟩
  · go_wp2_with fail
    go_ret
    exact ⟨by rw [hr.out]; rfl, rfl⟩

theorem or_c (l : List Int) (a : Option Addr) (c : Nat) (w : World) (hl : l.length ≤ 1000000) (hr : RdI w a l) :
    Calls Try.prog 39 #[.slice a l.length c] w fun e w' => e = .returned (.int .i64 (orL l)) ∧ w = w' := by
  have hr' := Lib.hid hr
  obtain ⟨n, hn⟩ : ∃ n, l.length = n := ⟨_, rfl⟩
  have hn' := Lib.hid hn
  rw [hn] at hl ⊢
  clear hr hn
  go_enter Try.func39, Try.ntmps39
  go_wp2_with fail
  go_loop [8] (fun i => ∃ j : Nat, j ≤ n ∧ i = .int .i64 j ∧ Hid (∀ k (h : k < j) (h' : k < l.length), l[k]'h' = 0)) (fun i => n - (intOf i).toNat)
  case atStart => exact ⟨0, by omega, rfl, Lib.hid (by intro k h; omega)⟩
  case round =>
    obtain ⟨j, hj, rfl, hno⟩ := hrel
    by_cases hjn : j < n
    · have hjl : j < l.length := by rw [hn'.out]; exact hjn
      obtain ⟨b, o, rfl, hc⟩ := hr'.out.cell hjl
      by_cases hx : l[j]'hjl = 0
      · have hno' := Lib.hid (show ∀ k (h : k < j + 1) (h' : k < l.length), l[k]'h' = 0 from fun k hk h' => by
          by_cases e : k = j
          · subst e; exact hx
          · exact hno.out k (by omega) h')
        have hxb : (l[j]'hjl != 0) = false := by simpa using hx
        clear hx hno
        generalize l[j]'hjl = y at *
        go_wp2_with fail
        go_round
        case rel => exact ⟨j + 1, by omega, by go_num, hno'⟩
        case measure => (simp [intOf]; try omega)
      · have hfin := Lib.hid (show orL l = l[j] from orL_at hjl (fun k hk => hno.out k hk (by omega)) hx)
        have hxb : (l[j]'hjl != 0) = true := by simpa using hx
        clear hx hno
        generalize l[j]'hjl = y at *
        go_wp2_with fail
        go_ret
        exact ⟨by rw [hfin.out]; rfl, rfl⟩
    · obtain rfl : j = n := by omega
      have hfin := Lib.hid (show orL l = 0 from orL_zero fun x hm => by
        obtain ⟨k, hk, e⟩ := List.mem_iff_getElem.1 hm
        rw [← e]
        exact hno.out k (by rw [← hn'.out]; exact hk) hk)
      go_wp2_with fail
      go_ret
      exact ⟨by rw [hfin.out]; rfl, rfl⟩

theorem cmp_c (N By M Cy : Int) (w : World) : Calls Try.prog 14 #[.agg #[.int .u32 N, .int .i64 By], .agg #[.int .u32 M, .int .i64 Cy]] w fun e w' => e = .returned (.int .i64 (cmpE N By M Cy)) ∧ Kp no w w' := by
  have hu := Lib.hid (fun a b w => compareU_c a b w)
  have hi := Lib.hid (fun a b w => compareI_c a b w)
  have H := ((SL.start w).alloc [.int .u32 N, .int .i64 By] 31).alloc [.int .u32 M, .int .i64 Cy] 31
  have hs1 : (w.alloc (.cells [Value.int .u32 N, .int .i64 By].toArray 31)).heap.size = w.heap.size + 1 := by simp
  rw [hs1] at H
  have hH := Lib.hid H
  clear H hs1
  unfold cmpE
  go_enter Try.func14, Try.ntmps14
  go_wp2_with fail
  generalize (w.alloc (.cells #[.int .u32 N, .int .i64 By] 31)).alloc (.cells #[.int .u32 M, .int .i64 Cy] 31) = w2 at *
  generalize w.heap.size + 1 = b2 at *
  generalize w.heap.size = b1 at *
  have c0 := hH.out.cell (o := 0) (.here _ _) rfl
  have c1 := hH.out.cell (o := 1) (.here _ _) rfl
  have d0 := hH.out.cell (o := 0) (.there (.here _ _)) rfl
  have d1 := hH.out.cell (o := 1) (.there (.here _ _)) rfl
  go_still_tail 10, (by kernel_rfl)
  still_call ((hu.out _ _ _).mono fun _ _ h => ⟨h.1, h.2.symm⟩)
  repeat still_step
  still_call ((hi.out _ _ _).mono fun _ _ h => ⟨h.1, h.2.symm⟩)
  repeat still_step
  try refine wpStill_nil ?_
  change wpList _ _ _ _ _ w2.drew
  generalize hx : cmpI N M = x at *
  generalize hy : cmpI By Cy = y at *
  have hx' := Lib.hid hx
  have hy' := Lib.hid hy
  clear hx hy
  have hD := Lib.hid (hH.out.drew)
  generalize w2.drew = w3 at *
  clear hH c0 c1 d0 d1
  have hor := Lib.hid (or_c [x, y] (some ⟨w3.heap.size, 0, none⟩) 2 (w3.alloc (.cells #[.int .i64 x, .int .i64 y] 3)) (by simp) (RdI.of_rd (rd_newK w3 3 (iv [x, y]))))
  have hk := Lib.hid ((hD.out.alloc [.int .i64 x, .int .i64 y] 3).kp (.there (.there (.there (.here _ _)))))
  go_wp2_with fail
  refine hor.out.mono ?_
  rintro e w4 ⟨rfl, rfl⟩
  go_wp2_with fail
  go_ret
  exact ⟨by rw [hx'.out, hy'.out]; rfl, hk.out⟩
end Go.Proofs.Ytaibdcglhibglaa

/- The walk of mullionref26.Same. -/
import Derived.Test.YtamhlmfcnnomgaaSome
import Derived.Deep.QuietTactic
import Derived.BigQuiet
namespace Go.Proofs.Ytamhlmfcnnomgaa
open Go.RowKit
set_option linter.unusedVariables false

/-- The slice reads as these moves. -/
def RdM (w : World) (a : Option Addr) (l : List Mv) : Prop := Rd w a (l.length * 5) (fun i => (mvs l).getD i undef)

theorem mvs_at (l : List Mv) (k j : Nat) (hk : k < l.length) (hj : j < 5) : (mvs l).getD (k * 5 + j) undef = (mvCells (l[k]'hk)).getD j undef := by
  induction l generalizing k with
  | nil => simp at hk
  | cons m l ih =>
    cases k with
    | zero =>
      rw [Nat.zero_mul, Nat.zero_add]
      show (mvCells m ++ mvs l).getD j undef = _
      rw [List.getD_eq_getElem?_getD, List.getElem?_append_left (by simpa [mvCells] using hj), ← List.getD_eq_getElem?_getD]
      rfl
    | succ k =>
      show (mvCells m ++ mvs l).getD ((k + 1) * 5 + j) undef = _
      rw [List.getD_eq_getElem?_getD, List.getElem?_append_right (by simp [mvCells]; omega), ← List.getD_eq_getElem?_getD]
      have e : (k + 1) * 5 + j - (mvCells m).length = k * 5 + j := by simp [mvCells]; omega
      rw [e, ih k (by simpa using hk)]
      rfl

theorem RdM.cells {w : World} {a : Option Addr} {l : List Mv} (h : RdM w a l) {k : Nat} (hk : k < l.length) :
    ∃ b o, a = some ⟨b, o, none⟩ ∧ w.cell? ⟨b, o + k * 5, none⟩ = some (.int .i64 (l[k]'hk).rd) ∧ w.cell? ⟨b, o + k * 5 + 1, none⟩ = some (.int .i64 (l[k]'hk).fr) ∧ w.cell? ⟨b, o + k * 5 + 2, none⟩ = some (.int .i64 (l[k]'hk).to) ∧
      w.cell? ⟨b, o + k * 5 + 3, none⟩ = some (.int .i64 (l[k]'hk).a) ∧ w.cell? ⟨b, o + k * 5 + 4, none⟩ = some (.int .i64 (l[k]'hk).b) := by
  have g : ∀ j, j < 5 → ∃ b o, a = some ⟨b, o, none⟩ ∧ w.cell? ⟨b, o + k * 5 + j, none⟩ = some ((mvCells (l[k]'hk)).getD j undef) := fun j hj => by
    obtain ⟨b, o, e, h2⟩ := h (k * 5 + j) (by omega)
    have h2 : w.cell? ⟨b, o + (k * 5 + j), none⟩ = some ((mvs l).getD (k * 5 + j) undef) := h2
    rw [mvs_at l k j hk hj, ← Nat.add_assoc] at h2
    exact ⟨b, o, e, h2⟩
  obtain ⟨b, o, rfl, g0⟩ := g 0 (by omega)
  have g' : ∀ j, j < 5 → w.cell? ⟨b, o + k * 5 + j, none⟩ = some ((mvCells (l[k]'hk)).getD j undef) := fun j hj => by
    obtain ⟨b', o', e, h2⟩ := g j hj
    cases e
    exact h2
  exact ⟨b, o, rfl, g0, g' 1 (by omega), g' 2 (by omega), g' 3 (by omega), g' 4 (by omega)⟩

theorem RdM.no {w w' : World} {a : Option Addr} {l : List Mv} (h : RdM w a l) (hk : Kp no w w') : RdM w' a l := Rd.no h hk

theorem fieldsMv : Try.prog.underlying 31 = some (.struct (Try.prog.fieldsOf 31)) := by kernel_rfl
theorem fieldsSp : Try.prog.underlying 29 = some (.struct (Try.prog.fieldsOf 29)) := by kernel_rfl
theorem eq_span (d : Nat) (a b c e : Int) (w : World) : (Op.equalIn (d + 2) 29 (.agg #[.int .i64 a, .int .i64 b]) (.agg #[.int .i64 c, .int .i64 e])).run Try.prog w = .ok (decide (a = c ∧ b = e)) w := by
  rw [run_equalIn_agg _ _ _ _ _ fieldsSp (by kernel_rfl)]
  have hf : (Try.prog.fieldsOf 29).toList.map (fun f => (f.name, f.type, f.offset)) = [("From", 3, 0), ("To", 3, 1)] := by kernel_rfl
  generalize (Try.prog.fieldsOf 29).toList = fs at hf
  rcases fs with _ | ⟨f0, _ | ⟨f1, _ | ⟨f2, r⟩⟩⟩ <;> simp only [List.map_cons, List.map_nil, List.cons.injEq, Prod.mk.injEq, and_true, and_false, reduceCtorEq] at hf
  obtain ⟨⟨n0, t0, o0⟩, n1, t1, o1⟩ := hf
  by_cases h1 : a = c <;> by_cases h2 : b = e <;> simp [Op.eqFields, n0, t0, o0, n1, t1, o1, h1, h2, go_sem]

def sameMv (x y : Mv) : Bool := decide (x = y)
theorem mv_ext {x y : Mv} (h1 : (x.rd : Int) = y.rd) (h2 : (x.fr : Int) = y.fr) (h3 : (x.to : Int) = y.to) (h4 : (x.a : Int) = y.a) (h5 : (x.b : Int) = y.b) : x = y := by
  cases x; cases y; simp at *; omega
theorem eq_mv (d : Nat) (x y : Mv) (w : World) : (Op.equalIn (d + 3) 31 (moveV x) (moveV y)).run Try.prog w = .ok (sameMv x y) w := by
  unfold moveV
  rw [run_equalIn_agg _ _ _ _ _ fieldsMv (by kernel_rfl)]
  have hf : (Try.prog.fieldsOf 31).toList.map (fun f => (f.name, f.type, f.offset)) = [("Round", 3, 0), ("From", 3, 1), ("To", 3, 2), ("Span", 29, 3)] := by kernel_rfl
  generalize (Try.prog.fieldsOf 31).toList = fs at hf
  rcases fs with _ | ⟨f0, _ | ⟨f1, _ | ⟨f2, _ | ⟨f3, _ | ⟨f4, r⟩⟩⟩⟩⟩ <;> simp only [List.map_cons, List.map_nil, List.cons.injEq, Prod.mk.injEq, and_true, and_false, reduceCtorEq] at hf
  obtain ⟨⟨n0, t0, o0⟩, ⟨n1, t1, o1⟩, ⟨n2, t2, o2⟩, n3, t3, o3⟩ := hf
  have hi : ∀ (a b : Int) (w : World), (Op.equalIn (d + 2) 3 (.int .i64 a) (.int .i64 b)).run Try.prog w = .ok (a == b) w := fun a b w => run_equalIn_int w (d + 1) _ .i64 .i64 a b Try.underlying3
  have hs := fun (a b c e : Int) (w : World) => eq_span d a b c e w
  by_cases h1 : (x.rd : Int) = y.rd
  · by_cases h2 : (x.fr : Int) = y.fr
    · by_cases h3 : (x.to : Int) = y.to
      · have : sameMv x y = decide ((x.a : Int) = y.a ∧ (x.b : Int) = y.b) := by
          unfold sameMv
          rw [decide_eq_decide]
          exact ⟨fun h => by rw [h]; exact ⟨rfl, rfl⟩, fun h => mv_ext h1 h2 h3 h.1 h.2⟩
        rw [this]
        by_cases h4 : (x.a : Int) = y.a <;> by_cases h5 : (x.b : Int) = y.b <;> simp [Op.eqFields, n0, t0, o0, n1, t1, o1, n2, t2, o2, n3, t3, o3, h1, h2, h3, h4, h5, hi, hs, go_sem]
      · have : sameMv x y = false := by unfold sameMv; rw [decide_eq_false_iff_not]; exact fun h => h3 (by rw [h])
        rw [this]
        simp [Op.eqFields, n0, t0, o0, n1, t1, o1, n2, t2, o2, h1, h2, h3, hi, go_sem]
    · have : sameMv x y = false := by unfold sameMv; rw [decide_eq_false_iff_not]; exact fun h => h2 (by rw [h])
      rw [this]
      simp [Op.eqFields, n0, t0, o0, n1, t1, o1, h1, h2, hi, go_sem]
  · have : sameMv x y = false := by unfold sameMv; rw [decide_eq_false_iff_not]; exact fun h => h1 (by rw [h])
    rw [this]
    simp [Op.eqFields, n0, t0, o0, h1, hi, go_sem]

theorem neq_mv (x y : Mv) (w : World) : (binOp .neq 31 (moveV x) (moveV y)).run Try.prog w = .ok (.bool (!(sameMv x y))) w := by
  unfold moveV
  rw [run_neq_struct]
  have := eq_mv 9997 x y w
  unfold moveV at this
  rw [this]
  rfl

theorem same_lens (a b : Option Addr) (n m ca cb : Nat) (w : World) (h : n ≠ m) : Calls Try.prog 18 #[.slice a n ca, .slice b m cb] w fun e w' => e = .returned (.bool false) ∧ w = w' := by
  have hb : ((n : Int) != (m : Int)) = true := by simp; omega
  have hb2 : ((n : Int) == (m : Int)) = false := by simp; omega
  go_enter Try.func18, Try.ntmps18
  go_wp2_with fail
  go_ret
  exact ⟨rfl, rfl⟩

theorem same_len (a b : Option Addr) (l k : List Mv) (ca cb : Nat) (w : World) (h : l.length = k.length) (hl : l.length ≤ 1000000) (ha : RdM w a l) (hb : RdM w b k) :
    Calls Try.prog 18 #[.slice a l.length ca, .slice b k.length cb] w fun e w' => e = .returned (.bool (decide (l = k))) ∧ ∃ n, w' = w.drewN n := by
  have h' := Lib.hid h
  have ha' := Lib.hid ha
  have hb' := Lib.hid hb
  obtain ⟨r, hr⟩ : ∃ r, decide (l = k) = r := ⟨_, rfl⟩
  have hr' := Lib.hid hr
  rw [← h, hr]
  obtain ⟨n, hn⟩ : ∃ n, l.length = n := ⟨_, rfl⟩
  have hn' := Lib.hid hn
  rw [hn] at hl ⊢
  clear h ha hb hn hr
  have hguard : ∀ (x y : Operand) (xs ys : Array Value) (w : World), (eqGuard .neq 31 x y (.agg xs) (.agg ys)).run Try.prog w = .ok () w := fun x y xs ys w => run_eqGuard_agg w .neq _ x y xs ys (by kernel_rfl)
  go_enter Try.func18, Try.ntmps18
  go_wp2_with fail
  go_loopw [5] (fun i V => ∃ j : Nat, j ≤ n ∧ i = .int .i64 j ∧ Hid (l.take j = k.take j) ∧ ∃ d, V = w.drewN d) (fun i _ => n - (intOf i).toNat)
  case atStart => exact ⟨0, by omega, rfl, Lib.hid (by simp), 0, rfl⟩
  case round =>
    obtain ⟨j, hj, rfl, heq, d, rfl⟩ := hrel
    by_cases hjn : j < n
    · have hjl : j < l.length := by rw [hn'.out]; exact hjn
      have hjk : j < k.length := by rw [← h'.out]; exact hjl
      obtain ⟨ba, oa, rfl, a0, a1, a2, a3, a4⟩ := ha'.out.cells hjl
      obtain ⟨bb, ob, rfl, b0, b1, b2, b3, b4⟩ := hb'.out.cells hjk
      have ht1 := List.take_succ_eq_append_getElem hjl
      have ht2 := List.take_succ_eq_append_getElem hjk
      have hne : l[j] ≠ k[j] → decide (l = k) = false := fun h => by
        rw [decide_eq_false_iff_not]
        rintro rfl
        exact h rfl
      generalize l[j] = x at *
      generalize k[j] = y at *
      have ht1' := Lib.hid ht1
      have ht2' := Lib.hid ht2
      have hne' := Lib.hid hne
      have hq := fun w => neq_mv x y w
      unfold moveV at hq
      clear hjl hjk ht1 ht2 hne
      cases hs : sameMv x y
      · rw [hs] at hq
        have hs' := Lib.hid hs
        clear hs
        go_wp2_with fail
        go_quiet (fail)
        go_wp2_with fail
        go_ret
        exact ⟨ret_b (by rw [← hr'.out, hne'.out (by have := hs'.out; unfold sameMv at this; simpa using this)]), _, World.drewN_drewN _ _ _⟩
      · rw [hs] at hq
        have hs' := Lib.hid hs
        clear hs
        go_wp2_with fail
        go_quiet (fail)
        go_wp2_with fail
        go_roundw
        case rel =>
          refine ⟨j + 1, by omega, by go_num, Lib.hid ?_, _, rfl⟩
          have : x = y := by have := hs'.out; unfold sameMv at this; simpa using this
          rw [ht1'.out, ht2'.out, heq.out, this]
        case measure => (simp [intOf]; try omega)
    · obtain rfl : j = n := by omega
      have hlk : l = k := by
        have := heq.out
        rw [List.take_of_length_le (by rw [hn'.out]; omega), List.take_of_length_le (by rw [← h'.out, hn'.out]; omega)] at this
        exact this
      have hfin := Lib.hid (show r = true by rw [← hr'.out, hlk]; simp)
      clear hlk
      go_wp2_with fail
      go_ret
      exact ⟨ret_b (by rw [hfin.out]), _, rfl⟩
end Go.Proofs.Ytamhlmfcnnomgaa

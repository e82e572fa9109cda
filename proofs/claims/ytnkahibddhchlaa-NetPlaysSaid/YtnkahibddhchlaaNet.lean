/- The net's pieces; the walks of none, is, New, find. -/
import Derived.Test.YtnkahibddhchlaaLane
import Derived.Carry
namespace Go.Proofs.Ytnkahibddhchlaa
open Go.RowKit Go.WideMaps
set_option linter.unusedVariables false

structure Tf where
  sent : Int
  doubled : Int
  delivered : Int
  dropped : Int
  lost : Int
  flipped : Int
def netB (p : Nat) (n room : Int) (m : Nat) (t : Tf) : Pc :=
  .blk p [.int .i64 n, .int .i64 room, .map (some m), .int .i64 t.sent, .int .i64 t.doubled, .int .i64 t.delivered, .int .i64 t.dropped, .int .i64 t.lost, .int .i64 t.flipped] 67
def kOf (x : Ln) : Ky × Nat := (x.key, x.q)
def lnsP (xs : List Ln) : List Pc := xs.flatMap lnP
def netP (p m : Nat) (n room : Int) (t : Tf) (xs : List Ln) : List Pc := netB p n room m t :: kmap m (xs.map kOf) :: lnsP xs

/-- What a way holds. -/
def look (xs : List Ln) (k : Ky) : List (List Int) := match xs.find? (fun x => x.key == k) with | some x => x.gs.map Gr.bs | none => []

structure NOk (n room : Nat) (xs : List Ln) : Prop where
  nd : (xs.map Ln.key).Nodup
  key : ∀ x ∈ xs, 0 ≤ x.key.1 ∧ x.key.1 < n ∧ 0 ≤ x.key.2 ∧ x.key.2 < n ∧ x.key.1 ≠ x.key.2
  len : ∀ x ∈ xs, x.gs.length ≤ room
  byte : ∀ x ∈ xs, ∀ g ∈ x.gs, g.bs.length ≤ 1100
  n1 : 1 ≤ n
  n2 : n ≤ 64
  r1 : 1 ≤ room
  r2 : room ≤ 256

theorem okI_nat {z : Int} (h : 0 ≤ z) (h2 : z ≤ 9223372036854775807) : okI z := by
  have e1 : IntKind.i64.min = -9223372036854775808 := by decide
  have e2 : IntKind.i64.max = 9223372036854775807 := by decide
  unfold okI; simp [Lit.wf, e1, e2]; omega
theorem NOk.okK {n room : Nat} {xs : List Ln} (h : NOk n room xs) : ∀ x ∈ xs.map kOf, okK x.1 := by
  intro y hy
  obtain ⟨x, hx, rfl⟩ := List.mem_map.1 hy
  have := h.key x hx
  have := h.n2
  exact ⟨okI_nat (by simp only [kOf]; omega) (by simp only [kOf]; omega), okI_nat (by simp only [kOf]; omega) (by simp only [kOf]; omega)⟩
theorem NOk.nd' {n room : Nat} {xs : List Ln} (h : NOk n room xs) : ((xs.map kOf).map (·.1)).Nodup := by
  rw [List.map_map]; exact h.nd

theorem arrK : ArrKey Try.prog 42 3 2 := ⟨by kernel_rfl, by kernel_rfl, by kernel_rfl, by kernel_rfl⟩
theorem intU : Try.prog.underlying 3 = some (.int .i64) := by kernel_rfl
theorem tsz : ∃ m, Try.prog.types.size = m + 1 := ⟨Try.prog.types.size - 1, by kernel_rfl⟩
theorem zeroLn (w : World) : (zeroValue 71).run Try.prog w = .ok (.pointer none) w := by simp [go_sem]

theorem net_lookup {n room : Nat} {xs : List Ln} (ok : NOk n room xs) {w : World} {m : Nat} (h : KmapAt w m (xs.map kOf)) {a b : Int} (ha : okI a) (hb : okI b) :
    (Instr.lookup 65 (.map (some m)) (.agg #[.int .i64 a, .int .i64 b]) false).run Try.prog w = .ok (kat (xs.map kOf) (a, b)) w :=
  kmap_lookup arrK intU tsz h Try.underlying65 (zeroLn w) ok.okK ok.nd' (k := (a, b)) ⟨ha, hb⟩

theorem look_none {xs : List Ln} {k : Ky} (h : ∀ x ∈ xs, x.key ≠ k) : look xs k = [] ∧ kat (xs.map kOf) k = .pointer none := by
  constructor
  · unfold look
    rw [List.find?_eq_none.2 fun x hx => by simpa using h x hx]
  · refine kat_none fun y hy => ?_
    obtain ⟨x, hx, rfl⟩ := List.mem_map.1 hy
    exact h x hx

theorem look_at {n room : Nat} {xs : List Ln} (ok : NOk n room xs) {k : Ky} {i : Nat} (hi : i < xs.length) (h : (xs[i]'hi).key = k) : look xs k = (xs[i]'hi).gs.map Gr.bs ∧ kat (xs.map kOf) k = ptrV (xs[i]'hi).q := by
  constructor
  · unfold look
    cases hf : xs.find? (fun x => x.key == k) with
    | none =>
      have := List.find?_eq_none.1 hf _ (List.getElem_mem hi)
      simp [h] at this
    | some x =>
      have hx := List.mem_of_find?_eq_some hf
      have hk := List.find?_some hf
      obtain ⟨j, hj, rfl⟩ := List.mem_iff_getElem.1 hx
      have e : j = i := by
        have h1 : (xs.map Ln.key)[j]'(by simpa using hj) = (xs.map Ln.key)[i]'(by simpa using hi) := by
          simp only [List.getElem_map]
          rw [h]; simpa using hk
        exact (List.getElem_inj ok.nd).1 h1
      subst e
      rfl
  · have hi' : i < (xs.map kOf).length := by simpa using hi
    have := kat_at hi' ok.nd' (k := k) (by simpa [kOf] using h)
    rw [this]
    simp [kOf]

theorem look_cases (xs : List Ln) (k : Ky) : (∀ x ∈ xs, x.key ≠ k) ∨ ∃ (i : Nat) (hi : i < xs.length), (xs[i]'hi).key = k := by
  by_cases h : ∃ x ∈ xs, x.key = k
  · obtain ⟨x, hx, hk⟩ := h
    obtain ⟨i, hi, rfl⟩ := List.mem_iff_getElem.1 hx
    exact .inr ⟨i, hi, hk⟩
  · exact .inl fun x hx e => h ⟨x, hx, e⟩

/-! ### One lane of the net -/
theorem lns_at : ∀ (xs : List Ln) (i : Nat) (hi : i < xs.length), (lnsP xs).Perm (lnP (xs[i]'hi) ++ lnsP (xs.eraseIdx i))
  | x :: xs, 0, _ => by simp [lnsP]
  | x :: xs, i + 1, h => by
    have ih := lns_at xs i (by simpa using h)
    show (lnP x ++ lnsP xs).Perm (lnP (xs[i]'(by simpa using h)) ++ (lnP x ++ lnsP (xs.eraseIdx i)))
    exact (ih.append_left _).trans (List.perm_append_comm_assoc _ _ _)
  | [], i, h => by simp at h
theorem lns_set (xs : List Ln) (i : Nat) (hi : i < xs.length) (y : Ln) : (lnsP (xs.set i y)).Perm (lnP y ++ lnsP (xs.eraseIdx i)) := by
  have := lns_at (xs.set i y) i (by simpa using hi)
  rw [List.getElem_set_self, List.eraseIdx_set_eq] at this
  exact this

section
variable {p m : Nat} {n room : Int} {t : Tf} {xs : List Ln} {L : List Pc} {w : World}
/-- What is left of the net beside its i-th lane's head. -/
def restP (p m : Nat) (n room : Int) (t : Tf) (xs : List Ln) (i : Nat) (L : List Pc) : List Pc := netB p n room m t :: kmap m (xs.map kOf) :: (lnsP (xs.eraseIdx i) ++ L)
theorem net_split (H : SL w (netP p m n room t xs ++ L)) {i : Nat} (hi : i < xs.length) :
    SL w (lnB (xs[i]'hi).q (xs[i]'hi).h :: lnH (xs[i]'hi).h (xs[i]'hi).gs :: ((xs[i]'hi).gs.map grP ++ restP p m n room t xs i L)) := by
  refine H.perm ?_
  have h1 := ((lns_at xs i hi).append_right L)
  have h2 : (netP p m n room t xs ++ L).Perm ([netB p n room m t, kmap m (xs.map kOf)] ++ (lnP (xs[i]'hi) ++ (lnsP (xs.eraseIdx i) ++ L))) := by
    unfold netP
    simp only [List.cons_append, List.nil_append]
    rw [← List.append_assoc]
    exact (h1.cons _).cons _
  exact h2.trans (List.perm_append_comm_assoc _ _ _)
theorem net_join {t' : Tf} {i : Nat} (hi : i < xs.length) (y : Ln) (hk : y.key = (xs[i]'hi).key) (hq : y.q = (xs[i]'hi).q)
    (H : SL w (lnB y.q y.h :: lnH y.h y.gs :: (y.gs.map grP ++ restP p m n room t' xs i L))) : SL w (netP p m n room t' (xs.set i y) ++ L) := by
  refine H.perm ?_
  have e : (xs.set i y).map kOf = xs.map kOf := by
    apply List.ext_getElem (by simp)
    intro j h1 h2
    simp only [List.getElem_map, List.getElem_set]
    split
    · rename_i e; subst e; simp [kOf, hk, hq]
    · rfl
  have h1 := ((lns_set xs i hi y).append_right L)
  have h2 : (netP p m n room t' (xs.set i y) ++ L).Perm ([netB p n room m t', kmap m (xs.map kOf)] ++ (lnP y ++ (lnsP (xs.eraseIdx i) ++ L))) := by
    unfold netP
    rw [e]
    simp only [List.cons_append, List.nil_append]
    rw [← List.append_assoc]
    exact (h1.cons _).cons _
  exact (h2.trans (List.perm_append_comm_assoc _ _ _)).symm
end

theorem none_c {p m : Nat} {n room : Int} {t : Tf} {L : List Pc} {w : World} (H : SL w (netB p n room m t :: L)) :
    Calls Try.prog 31 #[ptrV p] w fun e w' => e = .returned (.bool false) ∧ w = w' := by
  have c := H.cell (o := 2) (.here _ _) rfl
  have hq := fun w => run_eql_map_nil (P := Try.prog) w 65 _ _ (some m) Try.underlying65
  clear H
  unfold ptrV
  go_enter Try.func31, Try.ntmps31
  go_wp2_with fail
  go_ret
  exact ⟨rfl, rfl⟩

theorem is_c {p m : Nat} {n room : Int} {t : Tf} {L : List Pc} {w : World} (H : SL w (netB p n room m t :: L)) (k : Int) :
    Calls Try.prog 32 #[ptrV p, .int .i64 k] w fun e w' => e = .returned (.bool (decide (0 ≤ k ∧ k < n))) ∧ w = w' := by
  obtain ⟨r, hr⟩ : ∃ r, decide (0 ≤ k ∧ k < n) = r := ⟨_, rfl⟩
  rw [hr]
  have hr' := Lib.hid hr
  have c := H.cell (o := 0) (.here _ _) rfl
  clear hr H
  unfold ptrV
  go_enter Try.func32, Try.ntmps32
  by_cases h0 : 0 ≤ k
  · go_wp2_with fail
    go_ret
    refine ⟨ret_b ?_, rfl⟩
    rw [← hr'.out]
    simp [h0]
  · go_wp2_with fail
    go_ret
    refine ⟨ret_b ?_, rfl⟩
    rw [← hr'.out]
    simp; omega

def t0 : Tf := ⟨0, 0, 0, 0, 0, 0⟩
theorem new_c (n room : Nat) (h1 : 1 ≤ n) (h2 : n ≤ 64) (h3 : 1 ≤ room) (h4 : room ≤ 256) {w : World} {L : List Pc} (H : SL w L) :
    Calls Try.prog 10 #[.int .i64 n, .int .i64 room] w fun e w' => ∃ p m, e = .returned (.tuple #[ptrV p, .int .i64 0]) ∧ SL w' (netP p m n room t0 [] ++ L) := by
  have hH := Lib.hid H
  have hmm := @run_makeMap Try.prog
  clear H
  go_enter Try.func10, Try.ntmps10
  go_wp2_with fail
  go_ret2
  refine ⟨w.heap.size + 1, w.heap.size, rfl, ?_⟩
  have h := (hH.out.new (q := kmap w.heap.size []) ((Kp.refl no w).alloc (.map #[] 0)) ⟨#[], 0, blk_new w _, rfl⟩ fun b hb => Nat.le_of_eq hb.symm).alloc [.int .i64 n, .int .i64 room, .map (some w.heap.size), .int .i64 0, .int .i64 0, .int .i64 0, .int .i64 0, .int .i64 0, .int .i64 0] 67
  rw [World.size_alloc] at h
  exact h
theorem new_no (n room : Int) (h : n < 1 ∨ 64 < n ∨ room < 1 ∨ 256 < room) (w : World) :
    Calls Try.prog 10 #[.int .i64 n, .int .i64 room] w fun e w' => e = .returned (.tuple #[.pointer none, .int .i64 170]) ∧ w = w' := by
  go_enter Try.func10, Try.ntmps10
  by_cases h1 : n < 1
  · go_wp2_with fail
    go_ret2
    exact ⟨rfl, rfl⟩
  · by_cases h2 : 64 < n
    · go_wp2_with fail
      go_ret2
      exact ⟨rfl, rfl⟩
    · by_cases h3 : room < 1
      · go_wp2_with fail
        go_ret2
        exact ⟨rfl, rfl⟩
      · have h4 : 256 < room := by omega
        clear h
        go_wp2_with fail
        go_ret2
        exact ⟨rfl, rfl⟩

section
variable {p m : Nat} {n room : Nat} {t : Tf} {xs : List Ln} {L : List Pc} {w : World}
theorem find_yes (H : SL w (netP p m n room t xs ++ L)) (ok : NOk n room xs) {a b : Int} (ha : okI a) (hb : okI b) {i j : Nat} (hi : i < xs.length) (hk : (xs[i]'hi).key = (a, b)) (hj : j < (xs[i]'hi).gs.length) :
    Calls Try.prog 34 #[ptrV p, .int .i64 a, .int .i64 b, .int .i64 j] w fun e w' => e = .returned (.tuple #[ptrV (xs[i]'hi).q, .int .i64 0]) ∧ w = w' := by
  have hl := net_lookup ok (H.kmap (.there (.here _ _))) ha hb
  rw [(look_at ok hi hk).2] at hl
  have hS := net_split H hi
  obtain ⟨sa, sc, hsl, -⟩ := ln_slice hS (.there (.here _ _))
  have hc := hS.cell (b := (xs[i]'hi).q) (o := 0) (.here _ _) rfl
  rw [hsl] at hc
  have hno := Lib.hid (none_c H)
  have hhas := Lib.hid (has_c _ _ _ _ j w hc)
  have c2 := H.cell (b := p) (o := 2) (.here _ _) rfl
  have hd : decide ((0 : Int) ≤ (j : Int) ∧ (j : Int) < (((xs[i]'hi).gs.length : Nat) : Int)) = true := by simp; exact hj
  rw [hd] at hhas
  generalize (xs[i]'hi).q = q at *
  clear H hS hsl hc hd hk hj
  unfold ptrV at *
  go_enter Try.func34, Try.ntmps34
  go_wp2_with fail
  refine hno.out.mono ?_
  rintro e w' ⟨rfl, rfl⟩
  go_wp2_with fail
  refine hhas.out.mono ?_
  rintro e w' ⟨rfl, rfl⟩
  go_wp2_with fail
  go_ret2
  exact ⟨rfl, rfl⟩

theorem find_no (H : SL w (netP p m n room t xs ++ L)) (ok : NOk n room xs) {a b : Int} (ha : okI a) (hb : okI b) {j : Int} (hj : ¬ (0 ≤ j ∧ j < (look xs (a, b)).length)) :
    Calls Try.prog 34 #[ptrV p, .int .i64 a, .int .i64 b, .int .i64 j] w fun e w' => e = .returned (.tuple #[.pointer none, .int .i64 170]) ∧ w = w' := by
  have hl := net_lookup ok (H.kmap (.there (.here _ _))) ha hb
  have hno := Lib.hid (none_c H)
  have c2 := H.cell (b := p) (o := 2) (.here _ _) rfl
  rcases look_cases xs (a, b) with hn | ⟨i, hi, hk⟩
  · rw [(look_none hn).2] at hl
    have hhas := Lib.hid (has_nil j w)
    clear H hn hj
    unfold ptrV at *
    go_enter Try.func34, Try.ntmps34
    go_wp2_with fail
    refine hno.out.mono ?_
    rintro e w' ⟨rfl, rfl⟩
    go_wp2_with fail
    refine hhas.out.mono ?_
    rintro e w' ⟨rfl, rfl⟩
    go_wp2_with fail
    go_ret2
    exact ⟨rfl, rfl⟩
  · rw [(look_at ok hi hk).2] at hl
    rw [(look_at ok hi hk).1, List.length_map] at hj
    have hS := net_split H hi
    obtain ⟨sa, sc, hsl, -⟩ := ln_slice hS (.there (.here _ _))
    have hc := hS.cell (b := (xs[i]'hi).q) (o := 0) (.here _ _) rfl
    rw [hsl] at hc
    have hhas := Lib.hid (has_c _ _ _ _ j w hc)
    rw [decide_eq_false hj] at hhas
    generalize (xs[i]'hi).q = q at *
    clear H hS hsl hc hk hj
    unfold ptrV at *
    go_enter Try.func34, Try.ntmps34
    go_wp2_with fail
    refine hno.out.mono ?_
    rintro e w' ⟨rfl, rfl⟩
    go_wp2_with fail
    refine hhas.out.mono ?_
    rintro e w' ⟨rfl, rfl⟩
    go_wp2_with fail
    go_ret2
    exact ⟨rfl, rfl⟩
end
end Go.Proofs.Ytnkahibddhchlaa

/- Six members in memory, by number. -/
import Derived.Test.YtaibdcglhibglaaRestsL
import Derived.Test.YtaibdcglhibglaaDoW
namespace Go.Proofs.Ytaibdcglhibglaa
open Go.RowKit
set_option linter.unusedVariables false
set_option linter.unusedSimpArgs false

/-- Where a member's slice lies, and its map. -/
abbrev Pl := Option Addr × Nat × Nat
def upd {α : Type} (f : Nat → α) (i : Nat) (v : α) : Nat → α := fun j => if j = i then v else f j
theorem upd_same {α : Type} (f : Nat → α) (i : Nat) (v : α) : upd f i v i = v := by simp [upd]
theorem upd_other {α : Type} (f : Nat → α) {i j : Nat} (v : α) (h : j ≠ i) : upd f i v j = f j := by simp [upd, h]

def ONE (p : Nat → Nat) (g : Nat → Pl) (x : Nat → St) (i : Nat) : List Pc := MS (p i) (g i).1 (g i).2.1 (g i).2.2 (x i) []
def ALLN (n : Nat) (p : Nat → Nat) (g : Nat → Pl) (x : Nat → St) (T : List Pc) : List Pc := (List.range n).flatMap (ONE p g x) ++ T
def OTH (n : Nat) (p : Nat → Nat) (g : Nat → Pl) (x : Nat → St) (i : Nat) : List Pc := ((List.range n).filter (fun j => j != i)).flatMap (ONE p g x)

theorem range_perm {n i : Nat} (hi : i < n) : (List.range n).Perm (i :: (List.range n).filter (fun j => j != i)) := by
  have hm : i ∈ List.range n := List.mem_range.2 hi
  have h1 := List.perm_cons_erase hm
  rw [List.Nodup.erase_eq_filter (List.nodup_range) i] at h1
  exact h1

theorem all_perm {n i : Nat} (hi : i < n) (p : Nat → Nat) (g : Nat → Pl) (x : Nat → St) (T : List Pc) : (ALLN n p g x T).Perm (MS (p i) (g i).1 (g i).2.1 (g i).2.2 (x i) (OTH n p g x i ++ T)) := by
  have h := (List.Perm.flatMap_right (f := ONE p g x) (range_perm hi)).append_right T
  refine h.trans ?_
  rw [List.flatMap_cons, List.append_assoc]
  exact List.Perm.refl _

theorem oth_congr {n i : Nat} {p p' : Nat → Nat} {g g' : Nat → Pl} {x x' : Nat → St} (hp : ∀ j, j ≠ i → p' j = p j) (hg : ∀ j, j ≠ i → g' j = g j) (hx : ∀ j, j ≠ i → x' j = x j) : OTH n p' g' x' i = OTH n p g x i := by
  unfold OTH
  rw [List.flatMap_def, List.flatMap_def]
  congr 1
  refine List.map_congr_left fun j hj => ?_
  have hj : j ≠ i := by
    have := (List.mem_filter.1 hj).2
    simpa using this
  unfold ONE
  rw [hp j hj, hg j hj, hx j hj]

theorem all_pull {n i : Nat} (hi : i < n) {p : Nat → Nat} {g : Nat → Pl} {x : Nat → St} {T : List Pc} {w : World} (H : SL w (ALLN n p g x T)) : SL w (MS (p i) (g i).1 (g i).2.1 (g i).2.2 (x i) (OTH n p g x i ++ T)) := H.perm (all_perm hi p g x T)
theorem all_push {n i : Nat} (hi : i < n) {p : Nat → Nat} {g : Nat → Pl} {x : Nat → St} {T : List Pc} {w : World} {a : Option Addr} {c b : Nat} {y : St} (H : SL w (MS (p i) a c b y (OTH n p g x i ++ T))) : SL w (ALLN n p (upd g i (a, c, b)) (upd x i y) T) := by
  refine SL.perm ?_ (all_perm hi p (upd g i (a, c, b)) (upd x i y) T).symm
  rw [oth_congr (p := p) (g := g) (x := x) (fun _ _ => rfl) (fun j hj => upd_other g _ hj) (fun j hj => upd_other x _ hj), upd_same, upd_same]
  exact H
theorem all_back {n i : Nat} (hi : i < n) {p : Nat → Nat} {g : Nat → Pl} {x : Nat → St} {T : List Pc} {w : World} (H : SL w (MS (p i) (g i).1 (g i).2.1 (g i).2.2 (x i) (OTH n p g x i ++ T))) : SL w (ALLN n p g x T) := H.perm (all_perm hi p g x T).symm
theorem all_tail {n : Nat} {p : Nat → Nat} {g : Nat → Pl} {x : Nat → St} {T : List Pc} {w : World} (H : SL w (ALLN n p g x T)) : SL w T :=
  ⟨fun q hq => H.all q (List.mem_append_right _ hq), (List.pairwise_append.1 H.apart).2.1⟩
theorem oth_tail {n i : Nat} {p : Nat → Nat} {g : Nat → Pl} {x : Nat → St} {T : List Pc} {w : World} (H : SL w (OTH n p g x i ++ T)) : SL w T :=
  ⟨fun q hq => H.all q (List.mem_append_right _ hq), (List.pairwise_append.1 H.apart).2.1⟩
/-- A piece in front of all, put behind them, and back. -/
theorem all_in {n : Nat} {p : Nat → Nat} {g : Nat → Pl} {x : Nat → St} {T : List Pc} {w : World} {q : Pc} (H : SL w (q :: ALLN n p g x T)) : SL w (ALLN n p g x (q :: T)) := H.perm (List.perm_middle (l₁ := (List.range n).flatMap (ONE p g x))).symm
theorem all_out {n : Nat} {p : Nat → Nat} {g : Nat → Pl} {x : Nat → St} {T : List Pc} {w : World} {q : Pc} (H : SL w (ALLN n p g x (q :: T))) : SL w (q :: ALLN n p g x T) := H.perm (List.perm_middle (l₁ := (List.range n).flatMap (ONE p g x)))
theorem all_re {n : Nat} {p : Nat → Nat} {g : Nat → Pl} {x : Nat → St} {T T' : List Pc} {w : World} (H : SL w (ALLN n p g x T)) (r : Re T T') : SL w (ALLN n p g x T') := by
  unfold ALLN at *
  generalize (List.range n).flatMap (ONE p g x) = A at *
  induction A with
  | nil => exact H.re r
  | cons q A ih => exact H.re (.step (.here _ _) (by
      clear ih H
      induction A with
      | nil => exact r
      | cons q A ih => exact .step (.here _ _) ih))

section
variable {n i : Nat} {p : Nat → Nat} {g : Nat → Pl} {x : Nat → St} {T : List Pc} {w : World}
theorem allView (H : SL w (ALLN n p g x T)) (hi : i < n) (hx : (x i).Ok) :
    Calls Try.prog 10 #[.pointer (some ⟨p i, 0, none⟩)] w fun r w' => ∃ a' c', r = .returned (.agg #[.int .u32 (x i).N, .int .i64 (x i).By, .slice a' (x i).ms.length c']) ∧
      SL w' (ALLN n p g x (.own 3 1 (.slice a' (x i).ms.length c') (x i).ms.length (iv (x i).ms) :: T)) := by
  refine (viewS_c (all_pull hi H) hx.n1 hx.ne (by have := hx.len; omega)).mono ?_
  rintro r w' ⟨a', c', h1, h2⟩
  refine ⟨a', c', h1, all_in ?_⟩
  exact h2.perm (List.Perm.cons _ (all_perm hi p g x T).symm)

theorem allHeard (H : SL w (ALLN n p g x T)) (hi : i < n) (hx : (x i).Ok) (M Cy : Int) :
    Calls Try.prog 11 #[.pointer (some ⟨p i, 0, none⟩), .agg #[.int .u32 M, .int .i64 Cy]] w fun r w' => (∃ v, r = .returned v) ∧ ∃ g', SL w' (ALLN n p g' (upd x i ((x i).heard M Cy).2) T) := by
  refine (heardS_c (all_pull hi H) hx.n1 M Cy).mono ?_
  rintro r w' ⟨h1, h2⟩
  exact ⟨⟨_, h1⟩, _, all_push hi h2⟩

theorem allGreatest (H : SL w (ALLN n p g x T)) (hi : i < n) (hx : (x i).Ok) :
    Calls Try.prog 16 #[.pointer (some ⟨p i, 0, none⟩)] w fun r w' => r = .returned (.agg #[.int .u32 (x i).gN, .int .i64 (x i).gBy]) ∧ SL w' (ALLN n p g x T) := by
  refine (greatestS_c (all_pull hi H) hx.n1).mono ?_
  rintro r w' ⟨h1, h2⟩
  exact ⟨h1, all_back hi h2⟩

theorem allPropose_no (H : SL w (ALLN n p g x T)) (hi : i < n) (hx : (x i).Ok) (ga : Option Addr) (k m : Nat) (l : List Int) (hlen : l.length = m) (hl : l.length ≤ 1000000) (hr : ∀ V, SL V T → RdI V ga l) (hcan : (x i).can l = false) :
    Calls Try.prog 12 #[.pointer (some ⟨p i, 0, none⟩), .slice ga m k] w fun r w' => r = .returned (.tuple #[.agg #[.int .u32 0, .int .i64 0, .slice none 0 0], .bool false]) ∧ SL w' (ALLN n p g x T) := by
  refine (proposeK_no (all_pull hi H) hx.n1 (by have := hx.len; omega) ga k m l hlen hl (fun V h => hr V (oth_tail h)) hcan).mono ?_
  rintro r w' ⟨h1, h2⟩
  exact ⟨h1, all_back hi h2⟩
theorem allPropose_yes (H : SL w (ALLN n p g x T)) (hi : i < n) (hx : (x i).Ok) (ga : Option Addr) (k m : Nat) (l : List Int) (hlen : l.length = m) (hl : l.length ≤ 1000000) (hr : ∀ V, SL V T → RdI V ga l) (hcan : (x i).can l = true) :
    Calls Try.prog 12 #[.pointer (some ⟨p i, 0, none⟩), .slice ga m k] w fun r w' => ∃ a2 c2 g', r = .returned (.tuple #[.agg #[.int .u32 ((x i).gN + 1), .int .i64 (x i).self, .slice a2 m c2], .bool true]) ∧
      SL w' (ALLN n p g' (upd x i ((x i).adopt ((x i).gN + 1) (x i).self l)) (.own 3 1 (.slice a2 m c2) m (iv l) :: T)) := by
  refine (proposeK_yes (all_pull hi H) hx.n1 (by have := hx.len; omega) ga k m l hlen hl (fun V h => hr V (oth_tail h)) hcan ⟨hx.g0, hx.g1⟩ rfl rfl rfl).mono ?_
  rintro r w' ⟨a2, c2, a', c', b', h1, h2⟩
  refine ⟨a2, c2, upd g i (a', c', b'), h1, ?_⟩
  have h3 := h2.re (L' := MS (p i) a' c' b' ((x i).adopt ((x i).gN + 1) (x i).self l) (.own 3 1 (.slice a2 m c2) m (iv l) :: (OTH n p g x i ++ T))) (.step (.there (.here _ _)) (.step (.there (.here _ _)) (.step (.there (.here _ _)) (.same _))))
  have h4 : SL w' (MS (p i) a' c' b' ((x i).adopt ((x i).gN + 1) (x i).self l) (OTH n p g x i ++ .own 3 1 (.slice a2 m c2) m (iv l) :: T)) :=
    h3.perm ((((List.perm_middle (l₁ := OTH n p g x i)).symm.cons _).cons _).cons _)
  exact all_push hi h4
theorem allOffer (H : SL w (ALLN n p g x T)) (hi : i < n) (hx : (x i).Ok) (M Cy : Int) (ga : Option Addr) (k m : Nat) (l : List Int) (hlen : l.length = m) (hl : l.length ≤ 1000000) (hr : ∀ V, SL V T → RdI V ga l) :
    Calls Try.prog 13 #[.pointer (some ⟨p i, 0, none⟩), .agg #[.int .u32 M, .int .i64 Cy, .slice ga m k]] w fun r w' => (∃ v, r = .returned v) ∧ ∃ g', SL w' (ALLN n p g' (upd x i ((x i).offer M Cy l).2) T) := by
  refine (offerK (all_pull hi H) hx.n1 M Cy ga k m l hlen hl (fun V h => hr V (oth_tail h)) (o := ((x i).offer M Cy l).1) (y := ((x i).offer M Cy l).2) rfl).mono ?_
  rintro r w' ⟨a', c', b', h1, h2⟩
  exact ⟨⟨_, h1⟩, _, all_push hi h2⟩
end
end Go.Proofs.Ytaibdcglhibglaa

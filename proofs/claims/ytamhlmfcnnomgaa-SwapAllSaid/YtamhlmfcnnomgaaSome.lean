/- The walk of swap's some: the moves of a round that are looked for. -/
import Derived.Test.YtamhlmfcnnomgaaMovesL
import Derived.Test.YtamhlmfcnnomgaaOwnK
namespace Go.Proofs.Ytamhlmfcnnomgaa
open Go.RowKit Go.Shelf
attribute [local go_sem] Oper.semAt_some
set_option linter.unusedVariables false

def mvCells (m : Mv) : List Value := [.int .i64 m.rd, .int .i64 m.fr, .int .i64 m.to, .int .i64 m.a, .int .i64 m.b]
def mvs (l : List Mv) : List Value := l.flatMap mvCells
theorem mvs_len (l : List Mv) : (mvs l).length = l.length * 5 := by
  induction l with
  | nil => rfl
  | cons m l ih => simp [mvs, mvCells] at *; omega
theorem mvs_app (l k : List Mv) : mvs (l ++ k) = mvs l ++ mvs k := by simp [mvs]
theorem mvs_one (l : List Mv) : ∀ u ∈ mvs l, u.oneCell' = true := by
  intro u hu
  obtain ⟨m, _, h⟩ := List.mem_flatMap.1 hu
  simp [mvCells] at h
  rcases h with rfl | rfl | rfl | rfl | rfl <;> rfl

theorem elemMv : ElemK Try.prog 24 31 5 (.agg #[.int .i64 0, .int .i64 0, .int .i64 0, .int .i64 0, .int .i64 0]) 40 :=
  ⟨Try.underlying24, by kernel_rfl, rfl, by omega⟩

theorem inner_len (mode p s r fr f j : Nat) : (inner mode p s r fr f j).length ≤ j := by
  induction j with
  | zero => simp [inner]
  | succ j ih => rw [inner_succ, List.length_append]; split <;> simp <;> omega
theorem mvFrom_len (mode p s r fr : Nat) (hp : 1 ≤ p) : (mvFrom mode p s r fr).length ≤ p := by
  unfold mvFrom ways
  split
  · simp
  · rename_i f m h
    have := inner_len mode p s r fr f m
    have hm : m ≤ p := by
      split at h
      · cases h; omega
      · split at h
        · cases h; omega
        · split at h
          · cases h; omega
          · cases h
    omega
theorem pre_len (mode p s r i : Nat) (hp : 1 ≤ p) : (pre mode p s r i).length ≤ i * p := by
  induction i with
  | zero => simp [pre]
  | succ i ih => rw [pre_succ, List.length_append, Nat.add_mul]; have := mvFrom_len mode p s r i hp; omega
theorem moves_len (mode p s r : Nat) (hp : 1 ≤ p) (hp2 : p ≤ 64) : (movesOf mode p s r).length ≤ 4096 := by
  have := pre_len mode p s r p hp
  have : p * p ≤ 64 * 64 := Nat.mul_le_mul hp2 hp2
  unfold movesOf; omega

theorem moves_gives (mode p s r b1 b2 : Nat) (hm : mode = 1 ∨ mode = 2) (h1 : 1 ≤ p) (h2 : p ≤ 64) (h3 : s ≤ 4096) (h4 : r < roundsOf mode p) :
    Gives Try.prog 38 #[.pointer (some ⟨b1, 0, none⟩), .pointer (some ⟨b2, 0, none⟩)] ((movesOf mode p s r).map fun m => #[moveV m]) no (Plan b1 b2 mode p s r) (fun _ => True) := by
  rcases hm with rfl | rfl
  · by_cases hr : r = 0
    · exact moves_first p s r b1 b2 h1 h2 h3 hr
    · rw [roundsOf, if_neg (by omega)] at h4
      exact moves_later p s r b1 b2 h1 h2 h3 (by omega) (by omega)
  · rw [roundsOf, if_pos rfl] at h4
    exact moves_direct p s r b1 b2 h1 h2 h3 (by omega)

/-- moves makes the iterator. -/
theorem moves_c (mode p s r : Nat) (w : World) : Calls Try.prog 34 #[.agg #[.int .i64 mode, .int .i64 p, .int .i64 s], .int .i64 r] w fun e w' =>
    e = .returned (.func (.func 38) #[] #[.pointer (some ⟨w.heap.size, 0, none⟩), .pointer (some ⟨w.heap.size + 1, 0, none⟩)]) ∧
    w' = (w.alloc (.cells #[.int .i64 mode, .int .i64 p, .int .i64 s] 65)).alloc (.cells #[.int .i64 r] 3) := by
  have hmf : ∀ (fn : Fn) (first cap : Array Value) (w : World), (Instr.makeFunc fn first cap).run Try.prog w = .ok (.func fn first cap) w := fun _ _ _ _ => rfl
  go_enter Try.func34, Try.ntmps34
  go_wp2_with fail
  go_ret
  exact ⟨rfl, rfl⟩

/-- What is asked of the function that looks for moves: in each world of C it says P. -/
def Asks (f : Nat) (lb : Array Value) (P : Mv → Bool) (C : World → Prop) : Prop :=
  ∀ (W : World) (m : Mv), C W → Calls Try.prog f (#[moveV m] ++ lb) W fun e W' => e = .returned (.bool (P m)) ∧ Kp no W W'

set_option maxRecDepth 100000 in
set_option maxHeartbeats 2000000 in
theorem some_c (mode p s r : Nat) (w : World) (hm : mode = 1 ∨ mode = 2) (h1 : 1 ≤ p) (h2 : p ≤ 64) (h3 : s ≤ 4096) (h4 : r < roundsOf mode p) (f : Nat) (lb : Array Value) (P : Mv → Bool) (C : World → Prop)
    (hf : Asks f lb P C) (hfe : ∀ args w, (callFunc f args).run Try.prog w = .ok (.enter f args) w) (hC : ∀ A B S, C A → Kp S A B → (∀ k, S k → w.heap.size ≤ k) → C B) (hw : C w) :
    Calls Try.prog 27 #[.agg #[.int .i64 mode, .int .i64 p, .int .i64 s], .int .i64 r, .func (.func f) #[] lb] w fun e w' =>
    ∃ v, e = .returned v ∧ OwnK w' w.heap.size 31 5 v ((movesOf mode p s r).filter P).length (mvs ((movesOf mode p s r).filter P)) ∧ Kp no w w' := by
  obtain ⟨n, hn⟩ : ∃ n, w.heap.size = n := ⟨_, rfl⟩
  have hn' := Lib.hid hn
  have hlen := moves_len mode p s r h1 h2
  refine calls_of_marks Try.func27 rfl ?_
  simp only [Try.ntmps27, List.size_toArray, List.length_cons, List.length_nil, Nat.reduceAdd, Nat.reduceSub, Array.replicate_succ, Array.replicate_zero, List.push_toArray, List.append_toArray, List.nil_append, List.cons_append]
  have hf' := Lib.hid hf
  have hC' := Lib.hid hC
  have hw' := Lib.hid hw
  clear hf hC hw
  gi_wp2_with fail
  refine ⟨trivial, rfl, calls_in ((moves_c mode p s r _).mono ?_)⟩
  rintro e w1 ⟨rfl, rfl⟩
  gi_wp2_with fail
  have hF0 : ((((w.alloc (.cells #[.int .i64 mode, .int .i64 p, .int .i64 s] 65)).alloc (.cells #[.func (.func f) #[] lb] 68)).alloc (.cells #[.slice none 0 0] 24)).alloc (.cells #[.int .i64 mode, .int .i64 p, .int .i64 s] 65)).alloc (.cells #[.int .i64 r] 3) = ((((w.alloc (.cells #[.int .i64 mode, .int .i64 p, .int .i64 s] 65)).alloc (.cells #[.func (.func f) #[] lb] 68)).alloc (.cells #[.slice none 0 0] 24)).alloc (.cells #[.int .i64 mode, .int .i64 p, .int .i64 s] 65)).alloc (.cells #[.int .i64 r] 3) := rfl
  have hk0 : Kp no w (((((w.alloc (.cells #[.int .i64 mode, .int .i64 p, .int .i64 s] 65)).alloc (.cells #[.func (.func f) #[] lb] 68)).alloc (.cells #[.slice none 0 0] 24)).alloc (.cells #[.int .i64 mode, .int .i64 p, .int .i64 s] 65)).alloc (.cells #[.int .i64 r] 3)) := ((((((Kp.refl no w).alloc _).alloc _).alloc _).alloc _).alloc _)
  have hsz : (((((w.alloc (.cells #[.int .i64 mode, .int .i64 p, .int .i64 s] 65)).alloc (.cells #[.func (.func f) #[] lb] 68)).alloc (.cells #[.slice none 0 0] 24)).alloc (.cells #[.int .i64 mode, .int .i64 p, .int .i64 s] 65)).alloc (.cells #[.int .i64 r] 3)).heap.size = n + 5 := by simp only [World.size_alloc]; omega
  have hF : (((((w.alloc (.cells #[.int .i64 mode, .int .i64 p, .int .i64 s] 65)).alloc (.cells #[.func (.func f) #[] lb] 68)).alloc (.cells #[.slice none 0 0] 24)).alloc (.cells #[.int .i64 mode, .int .i64 p, .int .i64 s] 65)).alloc (.cells #[.int .i64 r] 3)).heap[n + 1]? = some (.cells #[.func (.func f) #[] lb] 68) := by
    refine blk_alloc (blk_alloc (blk_alloc ?_ _) _) _
    have := blk_new (w.alloc (.cells #[.int .i64 mode, .int .i64 p, .int .i64 s] 65)) (.cells #[.func (.func f) #[] lb] 68)
    rwa [World.size_alloc, hn] at this
  have hO : (((((w.alloc (.cells #[.int .i64 mode, .int .i64 p, .int .i64 s] 65)).alloc (.cells #[.func (.func f) #[] lb] 68)).alloc (.cells #[.slice none 0 0] 24)).alloc (.cells #[.int .i64 mode, .int .i64 p, .int .i64 s] 65)).alloc (.cells #[.int .i64 r] 3)).heap[n + 2]? = some (.cells #[.slice none 0 0] 24) := by
    refine blk_alloc (blk_alloc ?_ _) _
    have := blk_new ((w.alloc (.cells #[.int .i64 mode, .int .i64 p, .int .i64 s] 65)).alloc (.cells #[.func (.func f) #[] lb] 68)) (.cells #[.slice none 0 0] 24)
    rwa [World.size_alloc, World.size_alloc, hn] at this
  have hPl : Plan (n + 3) (n + 4) mode p s r (((((w.alloc (.cells #[.int .i64 mode, .int .i64 p, .int .i64 s] 65)).alloc (.cells #[.func (.func f) #[] lb] 68)).alloc (.cells #[.slice none 0 0] 24)).alloc (.cells #[.int .i64 mode, .int .i64 p, .int .i64 s] 65)).alloc (.cells #[.int .i64 r] 3)) := by
    constructor
    · refine blk_alloc ?_ _
      have := blk_new (((w.alloc (.cells #[.int .i64 mode, .int .i64 p, .int .i64 s] 65)).alloc (.cells #[.func (.func f) #[] lb] 68)).alloc (.cells #[.slice none 0 0] 24)) (.cells #[.int .i64 mode, .int .i64 p, .int .i64 s] 65)
      rwa [World.size_alloc, World.size_alloc, World.size_alloc, hn] at this
    · have := blk_new ((((w.alloc (.cells #[.int .i64 mode, .int .i64 p, .int .i64 s] 65)).alloc (.cells #[.func (.func f) #[] lb] 68)).alloc (.cells #[.slice none 0 0] 24)).alloc (.cells #[.int .i64 mode, .int .i64 p, .int .i64 s] 65)) (.cells #[.int .i64 r] 3)
      rwa [World.size_alloc, World.size_alloc, World.size_alloc, World.size_alloc, hn] at this
  clear hF0
  generalize World.alloc _ (Obj.cells #[.int .i64 r] 3) = W0 at hk0 hsz hF hO hPl ⊢
  refine wp_range2 (P := Try.prog) rfl (enters_of Try.func38 (by kernel_rfl) rfl) (moves_gives mode p s r (n + 3) (n + 4) hm h1 h2 h3 h4) (by simp) (fun k => k = n + 2 ∨ n + 7 ≤ k)
    (fun i V => Plan (n + 3) (n + 4) mode p s r V ∧ V.heap[n + 1]? = some (.cells #[.func (.func f) #[] lb] 68) ∧
      (∃ v, V.heap[n + 2]? = some (.cells #[v] 24) ∧ OwnK V (n + 7) 31 5 v (((movesOf mode p s r).take i).filter P).length (mvs (((movesOf mode p s r).take i).filter P))) ∧ Kp no w V)
    (fun _ _ => False) (fun _ h => h.elim) ?_ ?_ (fun _ _ _ h _ => h) (fun _ _ h => h.1) (fun _ _ => trivial) ⟨hPl, hF, ⟨_, hO, by simpa [mvs] using OwnK.nil W0 (n + 7) _ 5⟩, hk0⟩ ?_ ?_ (fun _ _ h _ => h.elim)
  · intro k hk
    rw [hsz]
    exact ⟨by omega, by omega, fun h => h⟩
  · rintro i A B ⟨i1, i2, ⟨v, i3, i4⟩, i5⟩ hk
    rw [hsz] at hk
    refine ⟨i1.kept hk (fun h => ?_) (fun h => ?_), hk.at i2 (fun h => ?_), ⟨v, hk.at i3 (fun h => ?_), i4.kept hk (fun g hg h => ?_)⟩, i5.then hk (fun _ _ h => h) (fun k hk h => ?_)⟩
    · rcases h with h | h | h <;> first | exact h.elim | omega
    · rcases h with h | h | h <;> first | exact h.elim | omega
    · rcases h with h | h | h <;> first | exact h.elim | omega
    · rcases h with h | h | h <;> first | exact h.elim | omega
    · have := (i4.block hg).1
      rcases h with h | h | h <;> first | exact h.elim | omega
    · rcases h with h | h | h <;> first | exact h.elim | omega
  · rintro i hi V hlt ⟨i1, i2, ⟨v, i3, i4⟩, i5⟩
    have hil : i < (movesOf mode p s r).length := by simpa using hi
    have e : ((movesOf mode p s r).map fun m => #[moveV m])[i] = #[moveV ((movesOf mode p s r)[i])] := by simp
    have htk : (movesOf mode p s r).take (i + 1) = (movesOf mode p s r).take i ++ [(movesOf mode p s r)[i]] := by rw [List.take_succ_eq_append_getElem hil]
    have htl : (((movesOf mode p s r).take i).filter P).length ≤ 4096 := by
      have := List.length_filter_le P ((movesOf mode p s r).take i)
      have := List.length_take_le i (movesOf mode p s r)
      have := List.length_take_le' i (movesOf mode p s r)
      omega
    rw [e, hsz]
    rw [hsz] at hlt
    generalize (movesOf mode p s r)[i] = m at htk ⊢
    have htk' := Lib.hid htk
    have i4' := Lib.hid i4
    have i5' := Lib.hid i5
    have hn2 := Lib.hid hn
    clear htk i4 e hF hO hPl hk0 hn i5
    have hmm : Hid (moveV m = .agg #[.int .i64 m.rd, .int .i64 m.fr, .int .i64 m.to, .int .i64 m.a, .int .i64 m.b]) := Lib.hid rfl
    obtain ⟨v1, hv1⟩ : ∃ v1, V.heap.size = v1 := ⟨_, rfl⟩
    rw [hmm.out]
    gi_wp2_with fail
    refine ⟨(Kp.refl no V).alloc _, fun W2 hk2 hI2 => ?_⟩
    have hm0 := hk2.at (blk_new V _) (fun h => by omega)
    rw [hv1] at hm0
    obtain ⟨j1, j2, ⟨v, j3, j4⟩, j5⟩ := hI2
    have cF := blk_cell j2 0 _ rfl
    have cO := blk_cell j3 0 _ rfl
    have c0 := blk_cell hm0 0 _ rfl
    have c1 := blk_cell hm0 1 _ rfl
    have c2 := blk_cell hm0 2 _ rfl
    have c3 := blk_cell hm0 3 _ rfl
    have c4 := blk_cell hm0 4 _ rfl
    have hCW := hC'.out _ _ no hw'.out j5 (fun _ h => h.elim)
    have hask := hf'.out W2 m hCW
    rw [hmm.out] at hask
    have hask' := Lib.hid hask
    have j1' := Lib.hid j1
    have j2' := Lib.hid j2
    have j3' := Lib.hid j3
    have j4' := Lib.hid j4
    have j5' := Lib.hid j5
    have hm0' := Lib.hid hm0
    clear j1 j2 j3 j4 j5 hm0 i1 i2 i3 hask hCW hk2
    gi_wp2_with fail
    refine ⟨trivial, rfl, calls_inR (hask'.out.mono ?_)⟩
    rintro e W3 ⟨rfl, hk3⟩
    have k1 := hk3.at j2'.out (fun h => h)
    have k2 := hk3.at j3'.out (fun h => h)
    have k0 := hk3.at hm0'.out (fun h => h)
    have kP := j1'.out.no hk3
    have k4 := j4'.out.no hk3
    have k5 := j5'.out.trans hk3
    have hsz3 := hk3.size
    clear cF cO c0 c1 c2 c3 c4
    cases hPm : P m
    · have k1' := Lib.hid k1
      have k2' := Lib.hid k2
      have hPm' := Lib.hid hPm
      have hk3' := Lib.hid hk3
      have htk2 := Lib.hid (show ((movesOf mode p s r).take (i + 1)).filter P = ((movesOf mode p s r).take i).filter P by rw [htk'.out, List.filter_append, List.filter_cons, hPm]; simp)
      clear k1 k2 k0 hPm hk3
      gi_wp2_with fail
      refine ⟨hk3'.out.of_no, kP, k1'.out, ⟨v, k2'.out, ?_⟩, k5⟩
      rw [htk2.out]
      exact k4
    · have cF := blk_cell k1 0 _ rfl
      have cO := blk_cell k2 0 _ rfl
      have fO := blk_frozen k2 0
      have c0 := blk_cell k0 0 _ rfl
      have c1 := blk_cell k0 1 _ rfl
      have c2 := blk_cell k0 2 _ rfl
      have c3 := blk_cell k0 3 _ rfl
      have c4 := blk_cell k0 4 _ rfl
      have htk2 := Lib.hid (show ((movesOf mode p s r).take (i + 1)).filter P = ((movesOf mode p s r).take i).filter P ++ [m] by rw [htk'.out, List.filter_append, List.filter_cons, hPm]; simp)
      have k1' := Lib.hid k1
      have k2' := Lib.hid k2
      have k5' := Lib.hid k5
      have hk3' := Lib.hid hk3
      clear k1 k2 k0 hPm hk3 k5
      have hv3 : v1 < W3.heap.size := Nat.lt_of_lt_of_le (blk_lt hm0'.out) hsz3
      have hoA := Lib.hid (k4.no ((Kp.refl no W3).alloc (.cells #[.int .i64 m.rd, .int .i64 m.fr, .int .i64 m.to, .int .i64 m.a, .int .i64 m.b] 31)))
      have k4' := Lib.hid k4
      clear k4
      gi_wp2_with (
        gi_at_builtin
        refine wpListIn_appK rfl (.tmp 16) (.tmp 18) _ rfl (n + 7) elemMv v rfl hoA.out (by rw [World.size_alloc]; omega) (mvs [m]) rfl rfl (rd_newK W3 _ (mvs [m])) (mvs_one _) (by simp only [maxLen]; omega) (by omega) (fun h => (by cases h)) ?_
        intro v' W4 ho hkk hnil
        obtain ⟨a', cap', rfl, -⟩ := ho.slice
        have q1 := hkk.at (blk_alloc k1'.out _) (fun h => by have := (hoA.out.block h).1; omega)
        have q2 := hkk.at (blk_alloc k2'.out _) (fun h => by have := (hoA.out.block h).1; omega)
        have q3 := (kP.no ((Kp.refl no W3).alloc _)).kept hkk (fun h => by have := (hoA.out.block h).1; omega) (fun h => by have := (hoA.out.block h).1; omega)
        have q4 := blk_cell q2 0 _ rfl
        have q5 := blk_frozen q2 0
        have q6 := Lib.hid q1
        have q7 := Lib.hid q2
        have q8 := Lib.hid hkk
        have q9 := Lib.hid hnil
        have qq := Lib.hid ho
        clear q1 q2 hkk hnil ho)
      obtain ⟨v', hvv⟩ : ∃ v', Value.slice a' ((((movesOf mode p s r).take i).filter P).length + 1) cap' = v' := ⟨_, rfl⟩
      have qq2 := qq.out
      rw [hvv] at qq2 ⊢
      have hs1 := (Kp.refl (fun k => k = n + 2) W4).setCell (p := ⟨n + 2, 0, none⟩) (.inl rfl) v'
      have hne : ∀ g, v'.ownBlock = some g → ¬ g = n + 2 := fun g hg h => by have := (qq2.block hg).1; omega
      refine ⟨((hk3'.out.alloc _).then q8.out (fun _ _ h => h.elim) (fun k hk h => .inr (hoA.out.block h).1)).then hs1 (fun _ _ h => h) (fun k hk h => .inl h), q3.kept hs1 (by omega) (by omega), hs1.at q6.out (by omega), ⟨v', blk_setCell q7.out 0 v', ?_⟩, ((k5'.out.alloc _).then q8.out (fun _ _ h => h.elim) (fun k hk h => by have := (hoA.out.block h).1; have := hn2.out; omega)).then hs1 (fun _ _ h => h) (fun k hk h => by have := hn2.out; omega)⟩
      rw [htk2.out, List.length_append, mvs_app]
      exact qq2.kept hs1 hne
  · rintro V ⟨i1, i2, ⟨v, i3, i4⟩, i5⟩ hK
    rw [List.length_map, List.take_length] at i4
    rw [hsz] at hK ⊢
    have cO := blk_cell i3 0 _ rfl
    have i3' := Lib.hid i3
    have i4' := Lib.hid i4
    have i5' := Lib.hid i5
    clear i1 i2 i3 i4 i5 hF hO hPl
    gi_wp2_with fail
    have hk6 : Kp (fun k => k = n + 5) V (V.putObj (n + 5) (.deferred none)) := (Kp.refl (fun k => k = n + 5) V).putObj (.inl rfl) _
    refine leave_one hK ?_ ⟨v, rfl, ?_, ?_⟩
    · simp [results, Try.results27, go_sem]
    · exact (i4'.out.kept hk6 (fun g hg h => by have := (i4'.out.block hg).1; omega)).mono (by omega)
    · exact i5'.out.then hk6 (fun _ _ h => h) (fun k hk h => by omega)
end Go.Proofs.Ytamhlmfcnnomgaa

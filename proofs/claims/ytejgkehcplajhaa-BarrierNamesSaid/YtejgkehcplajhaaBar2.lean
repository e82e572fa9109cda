/- The walks of barrier's Frame, New and missing. -/
import Derived.Test.YtejgkehcplajhaaBar1
import Derived.Test.YtejgkehcplajhaaSLRange
import Derived.RangeFuncCalls
import Derived.TacticsIn
import Derived.Sort.QuietIn
import Derived.Shelf.RegionOpen
namespace Go.Proofs.Ytejgkehcplajhaa
open Go.RowKit Go.Shelf
set_option linter.unusedVariables false
attribute [local go_sem] Oper.semAt_some

/-- A barrier's block. -/
def barB (p : Nat) (v : Value) (fr f n : Int) (m : Nat) : Pc := .blk p [v, .int .i64 fr, .int .i64 f, .int .i64 n, .map (some m)] 65

theorem frame_c (p len c m : Nat) (a : Option Addr) (fr f n : Int) (w : World) (hn : 1 ≤ len)
    (C : w.cell? ⟨p, 0, none⟩ = some (.slice a len c) ∧ w.cell? ⟨p, 2, none⟩ = some (.int .i64 f) ∧ w.cell? ⟨p, 3, none⟩ = some (.int .i64 n)) :
    Calls Try.prog 12 #[.pointer (some ⟨p, 0, none⟩)] w fun e w' => e = .returned (.tuple #[.int .i64 f, .bool (decide (f < n))]) ∧ ∃ k, w' = w.drewN k := by
  obtain ⟨c0, c1, c2⟩ := C
  have hno := Lib.hid (none_c p len c a w c0 hn)
  go_enter Try.func12, Try.ntmps12
  go_wp2_with fail
  refine hno.out.mono ?_
  rintro e w' ⟨rfl, rfl⟩
  go_wp2_with fail
  go_quiet (fail)
  go_wp2_with fail
  go_ret2
  exact ⟨rfl, _, rfl⟩

theorem missing_c (p : Nat) (w : World) {L : List Pc} (H : SL w L) :
    Calls Try.prog 27 #[.pointer (some ⟨p, 0, none⟩)] w fun e w' => ∃ B, e = .returned (.func (.func 33) #[] #[.pointer (some ⟨B, 0, none⟩)]) ∧
      SL w' (.blk B [.pointer (some ⟨p, 0, none⟩)] 31 :: L) := by
  have hmf : ∀ (fn : Fn) (first cap : Array Value) (w : World), (Instr.makeFunc fn first cap).run Try.prog w = .ok (.func fn first cap) w := fun _ _ _ _ => rfl
  go_enter Try.func27, Try.ntmps27
  go_wp2_with fail
  go_ret
  exact ⟨_, rfl, H.alloc _ _⟩

/-- The members that a set does not hold. -/
def missL (ms : List Int) (ps : Int → Bool) : List Int := ms.filter fun x => !ps x
def missX (ms : List Int) (ps : Int → Bool) : List (Array Value) := (missL ms ps).map fun x => #[.int .i64 x]
theorem missX_at {ms : List Int} {ps : Int → Bool} {k : Nat} (hk : k < ms.length) (h : ps (ms[k]'hk) = false) :
    ∃ h2 : (missL (ms.take k) ps).length < (missX ms ps).length, (missX ms ps)[(missL (ms.take k) ps).length]'h2 = #[.int .i64 (ms[k]'hk)] := by
  have e : ms = ms.take k ++ ms[k]'hk :: ms.drop (k + 1) := by rw [← List.drop_eq_getElem_cons hk, List.take_append_drop]
  have e2 : missL ms ps = missL (ms.take k) ps ++ ms[k]'hk :: missL (ms.drop (k + 1)) ps := by
    conv => lhs; rw [e]
    unfold missL
    rw [List.filter_append, List.filter_cons_of_pos (by simp [h])]
  have e3 : missX ms ps = (missL (ms.take k) ps).map (fun x => #[Value.int .i64 x]) ++ #[.int .i64 (ms[k]'hk)] :: (missL (ms.drop (k + 1)) ps).map (fun x => #[Value.int .i64 x]) := by
    unfold missX; rw [e2]; simp
  refine ⟨by rw [e3]; simp, ?_⟩
  rw [List.getElem_of_eq e3, List.getElem_append_right (by simp)]
  simp
theorem missL_succ {ms : List Int} {ps : Int → Bool} {k : Nat} (hk : k < ms.length) :
    missL (ms.take (k + 1)) ps = if ps (ms[k]'hk) then missL (ms.take k) ps else missL (ms.take k) ps ++ [ms[k]'hk] := by
  rw [List.take_succ_eq_append_getElem hk]
  unfold missL
  rw [List.filter_append]
  cases h : ps (ms[k]'hk) <;> simp [h]

def missP (B p len c m : Nat) (a : Option Addr) (fr f n : Int) (ms : List Int) (ps : Int → Bool) : List Pc :=
  [.blk B [.pointer (some ⟨p, 0, none⟩)] 31, barB p (.slice a len c) fr f n m, iset m ps, .own 3 1 (.slice a len c) len (iv ms)]

theorem hzI : ∀ w, (zeroValue 3).run Try.prog w = .ok (.int .i64 0) w := fun w => by simp [go_sem]

set_option maxHeartbeats 1000000 in
theorem missing_gives (B p len c m : Nat) (a : Option Addr) (fr f n : Int) (ms : List Int) (ps : Int → Bool) (hlen : 1 ≤ len) (hl : len ≤ 1000000) (hfn : f ≠ n) :
    GivesS Try.prog 33 #[.pointer (some ⟨B, 0, none⟩)] (missX ms ps) (fun _ => missP B p len c m a fr f n ms ps) (fun _ => missP B p len c m a fr f n ms ps) := by
  intro l J Z W L0 hY h0 H
  have hY' := Lib.hid hY
  have h0' := Lib.hid h0
  clear hY h0
  have hfb : (f == n) = false := by simpa using hfn
  clear hfn
  refine callsIn_of_wp Try.func33 rfl trivial ?_ rfl
  simp only [Try.ntmps33, List.size_toArray, List.length_cons, List.length_nil, Nat.reduceAdd, Nat.reduceSub, Array.replicate_succ, Array.replicate_zero, List.push_toArray, List.append_toArray, List.nil_append, List.cons_append]
  simp only [missP, barB, List.cons_append, List.nil_append] at H
  (have C := H.cells; dsimp only [cellsOf, Pc.cells, cellsFrom, iset, Nat.zero_add, Nat.reduceAdd] at C; (try simp only [true_and, and_true] at C))
  have hno := Lib.hid (fun k => none_c p len c a (W.drewN k) C.2.1.1 hlen)
  gi_wp2_with (first | refine wpIn_label ?_ | refine scope_in ?_)
  refine wpIn_wide.2 ?_
  go_quiet ((go_at_call 25; exact quiet_eq (hno.out _)))
  gi_wp2_with (first | refine wpIn_label ?_ | refine scope_in ?_)
  have H1 := H.drewN nq
  obtain ⟨w1, hw1⟩ : ∃ w1, W.drewN nq = w1 := ⟨_, rfl⟩
  rw [hw1] at H1 ⊢
  have hlen' : Hid (len = ms.length) := Lib.hid (OwnK.rdI (H1.ownOf (by first | exact .here _ _ | exact .there (.here _ _) | exact .there (.there (.here _ _)) | exact .there (.there (.there (.here _ _))) | exact .there (.there (.there (.there (.here _ _)))) | exact .there (.there (.there (.there (.there (.here _ _))))) | exact .there (.there (.there (.there (.there (.there (.here _ _)))))) | exact .there (.there (.there (.there (.there (.there (.there (.here _ _))))))) | exact .there (.there (.there (.there (.there (.there (.there (.there (.here _ _)))))))) | exact .there (.there (.there (.there (.there (.there (.there (.there (.there (.here _ _))))))))) | exact .there (.there (.there (.there (.there (.there (.there (.there (.there (.there (.here _ _)))))))))) | exact .there (.there (.there (.there (.there (.there (.there (.there (.there (.there (.there (.here _ _))))))))))) | exact .there (.there (.there (.there (.there (.there (.there (.there (.there (.there (.there (.there (.here _ _)))))))))))) | exact .there (.there (.there (.there (.there (.there (.there (.there (.there (.there (.there (.there (.there (.here _ _)))))))))))))))).2.1
  clear H C hno hw1
  gi_loopw [23] (fun i V => ∃ (k : Nat) (L : List Pc), k ≤ len ∧ i = .int .i64 k ∧ J (missL (ms.take k) ps).length L ∧ SL V (missP B p len c m a fr f n ms ps ++ L)) (fun i _ => len - (intOf i).toNat)
  case atStart => exact ⟨0, L0, by omega, rfl, by simpa [missL] using h0'.out, H1⟩
  case round =>
    obtain ⟨k, L, hk, rfl, hJ, H⟩ := hrel
    have hH := Lib.hid H
    simp only [missP, barB, List.cons_append, List.nil_append] at H
    (have C := H.cells; dsimp only [cellsOf, Pc.cells, cellsFrom, iset, Nat.zero_add, Nat.reduceAdd] at C; (try simp only [true_and, and_true] at C))
    clear H1
    by_cases hkn : k < len
    · have hkm : k < ms.length := by rw [← hlen'.out]; exact hkn
      obtain ⟨b, o, rfl, hc⟩ := (OwnK.rdI (H.ownOf (by first | exact .here _ _ | exact .there (.here _ _) | exact .there (.there (.here _ _)) | exact .there (.there (.there (.here _ _))) | exact .there (.there (.there (.there (.here _ _)))) | exact .there (.there (.there (.there (.there (.here _ _))))) | exact .there (.there (.there (.there (.there (.there (.here _ _)))))) | exact .there (.there (.there (.there (.there (.there (.there (.here _ _))))))) | exact .there (.there (.there (.there (.there (.there (.there (.there (.here _ _)))))))) | exact .there (.there (.there (.there (.there (.there (.there (.there (.there (.here _ _))))))))) | exact .there (.there (.there (.there (.there (.there (.there (.there (.there (.there (.here _ _)))))))))) | exact .there (.there (.there (.there (.there (.there (.there (.there (.there (.there (.there (.here _ _))))))))))) | exact .there (.there (.there (.there (.there (.there (.there (.there (.there (.there (.there (.there (.here _ _)))))))))))) | exact .there (.there (.there (.there (.there (.there (.there (.there (.there (.there (.there (.there (.there (.here _ _)))))))))))))))).2.2.cell hkm
      have hlk := fun x => iset_lookup (H.iset (by first | exact .here _ _ | exact .there (.here _ _) | exact .there (.there (.here _ _)) | exact .there (.there (.there (.here _ _))) | exact .there (.there (.there (.there (.here _ _)))) | exact .there (.there (.there (.there (.there (.here _ _))))) | exact .there (.there (.there (.there (.there (.there (.here _ _)))))) | exact .there (.there (.there (.there (.there (.there (.there (.here _ _))))))) | exact .there (.there (.there (.there (.there (.there (.there (.there (.here _ _)))))))) | exact .there (.there (.there (.there (.there (.there (.there (.there (.there (.here _ _))))))))) | exact .there (.there (.there (.there (.there (.there (.there (.there (.there (.there (.here _ _)))))))))) | exact .there (.there (.there (.there (.there (.there (.there (.there (.there (.there (.there (.here _ _))))))))))) | exact .there (.there (.there (.there (.there (.there (.there (.there (.there (.there (.there (.there (.here _ _)))))))))))) | exact .there (.there (.there (.there (.there (.there (.there (.there (.there (.there (.there (.there (.there (.here _ _))))))))))))))) Try.underlying63 Try.underlying3 hzI x
      have hs := Lib.hid (missL_succ (ps := ps) hkm)
      cases hp : ps (ms[k]'hkm)
      · obtain ⟨h2, h3⟩ := missX_at hkm hp
        obtain ⟨fn, tmps, assign, body, hy, hR⟩ := hY'.out _ h2 wr L hJ hH.out
        rw [h3] at hy
        have hR' := Lib.hid hR
        have hJ' := Lib.hid hJ
        rw [hp] at hs
        have hlk0 := hlk (ms[k]'hkm)
        rw [hp] at hlk0
        generalize ms[k]'hkm = y at *
        clear hlk hR hJ h2 h3 hp H
        gi_wp2_with fail
        refine ⟨rfl, hR'.out.mono ?_⟩
        rintro e w3 (⟨rfl, L', hJ3, H3⟩ | ⟨rfl, L', hZ3, H3⟩)
        · have H3' := Lib.hid H3
          have hJ3' := Lib.hid hJ3
          clear C hc hlk0 H3 hJ3
          gi_wp2_with fail
          go_roundw
          case rel =>
            refine ⟨k + 1, L', by omega, by go_num, ?_, H3'.out⟩
            rw [hs.out]; simpa using hJ3'.out
          case measure => (simp [intOf]; try omega)
        · gi_wp2_with fail
          repeat (first | rw [Exit.noGoto_ret] | gi_step)
          refine bodyPost_ret (results_none rfl _ _ _) rfl ?_
          exact ⟨⟨_, rfl⟩, .inr ⟨_, _, hZ3, H3⟩⟩
      · have hJ' := Lib.hid hJ
        rw [hp] at hs
        have hlk0 := hlk (ms[k]'hkm)
        rw [hp] at hlk0
        generalize ms[k]'hkm = y at *
        clear hlk hJ hp H
        gi_wp2_with fail
        go_roundw
        case rel =>
          refine ⟨k + 1, L, by omega, by go_num, ?_, hH.out⟩
          rw [hs.out]; exact hJ'.out
        case measure => (simp [intOf]; try omega)
    · obtain rfl : k = len := by omega
      have hJ' := Lib.hid hJ
      clear hJ H
      gi_wp2_with fail
      repeat (first | rw [Exit.noGoto_normal] | gi_step)
      refine bodyPost_end (results_none rfl _ _ _) rfl ⟨⟨_, rfl⟩, .inl ⟨L, ?_, hH.out⟩⟩
      have e : ms.take k = ms := List.take_of_length_le (by rw [← hlen'.out]; exact Nat.le_refl _)
      have := hJ'.out
      rw [e] at this
      simpa [missX] using this

/-- Behind the last frame nobody is missing. -/
theorem missing_none (B p len c m : Nat) (a : Option Addr) (fr n : Int) (ms : List Int) (ps : Int → Bool) (hlen : 1 ≤ len) :
    GivesS Try.prog 33 #[.pointer (some ⟨B, 0, none⟩)] [] (fun _ => missP B p len c m a fr n n ms ps) (fun _ => missP B p len c m a fr n n ms ps) := by
  intro l J Z W L0 hY h0 H
  have h0' := Lib.hid h0
  clear hY h0
  refine callsIn_of_wp Try.func33 rfl trivial ?_ rfl
  simp only [Try.ntmps33, List.size_toArray, List.length_cons, List.length_nil, Nat.reduceAdd, Nat.reduceSub, Array.replicate_succ, Array.replicate_zero, List.push_toArray, List.append_toArray, List.nil_append, List.cons_append]
  have hH := Lib.hid H
  simp only [missP, barB, List.cons_append, List.nil_append] at H
  (have C := H.cells; dsimp only [cellsOf, Pc.cells, cellsFrom, iset, Nat.zero_add, Nat.reduceAdd] at C; (try simp only [true_and, and_true] at C))
  have hno := Lib.hid (fun k => none_c p len c a (W.drewN k) C.2.1.1 hlen)
  clear H
  gi_wp2_with (first | refine wpIn_label ?_ | refine scope_in ?_)
  refine wpIn_wide.2 ?_
  go_quiet ((go_at_call 25; exact quiet_eq (hno.out _)))
  gi_wp2_with (first | refine wpIn_label ?_ | refine scope_in ?_)
  repeat (first | rw [Exit.noGoto_ret] | gi_step)
  refine bodyPost_ret (results_none rfl _ _ _) rfl ⟨⟨_, rfl⟩, .inl ⟨L0, h0'.out, hH.out.drewN _⟩⟩

set_option maxHeartbeats 1000000 in
theorem appendSeq_c {g : Nat} {lb : Array Value} {xs : List Int} {A : Nat → List Pc} (hg : GivesS Try.prog g lb (xs.map fun x => #[.int .i64 x]) A A)
    (eg : ∀ args w, (callFunc g args).run Try.prog w = .ok (.enter g args) w) (hl : xs.length ≤ 1000000) (w : World) {L : List Pc} (H : SL w (A 0 ++ L)) :
    Calls Try.prog 35 #[.slice none 0 0, .func (.func g) #[] lb] w fun e w' => ∃ a c, e = .returned (.slice a xs.length c) ∧
      SL w' (.own 3 1 (.slice a xs.length c) xs.length (iv xs) :: (A xs.length ++ L)) := by
  refine calls_of_marks Try.func35 rfl ?_
  simp only [Try.ntmps35, List.size_toArray, List.length_cons, List.length_nil, Nat.reduceAdd, Nat.reduceSub, Array.replicate_succ, Array.replicate_zero, List.push_toArray, List.append_toArray, List.nil_append, List.cons_append]
  have hg' := Lib.hid hg
  clear hg
  gi_wp2_with fail
  have H1 : SL _ (.blk w.heap.size [.slice none 0 0] 22 :: .own 3 1 (.slice none 0 0) 0 [] :: (A 0 ++ L)) := (H.pure (q := .own 3 1 (.slice none 0 0) 0 []) (OwnK.nil _ _ _ _) (fun b h => by cases h)).alloc [.slice none 0 0] 22
  generalize (w.alloc (Obj.cells [Value.slice none 0 0].toArray 22)) = w1 at *
  generalize w.heap.size = S at *
  refine wp_rangeS rfl eg hg'.out (by simp) (fun i L' => ∃ a c, L' = .blk S [.slice a i c] 22 :: .own 3 1 (.slice a i c) i (iv (xs.take i)) :: L) (fun _ _ _ => False) (L0 := .blk S [.slice none 0 0] 22 :: .own 3 1 (.slice none 0 0) 0 [] :: L)
    ⟨none, 0, rfl⟩ (H1.perm ((List.perm_append_comm (l₁ := A 0) (l₂ := L)).cons _ |>.cons _)) ?_ ?_ ?_
  · rintro i hi V l _ T ⟨a, c, rfl⟩ H
    have hil : i < xs.length := by simpa using hi
    have hxi : (xs.map fun x => #[Value.int .i64 x])[i] = #[Value.int .i64 (xs[i]'hil)] := by simp
    rw [hxi]
    have htk := Lib.hid (List.take_succ_eq_append_getElem hil)
    generalize xs[i]'hil = x at *
    clear H1 hxi
    gi_wp2_with fail
    refine ⟨_, H, ?_⟩
    clear H
    intro V2 T2 H
    simp only [List.cons_append] at H
    (have C := H.cells; dsimp only [cellsOf, Pc.cells, cellsFrom, iset, Nat.zero_add, Nat.reduceAdd] at C; (try simp only [true_and, and_true] at C))
    gi_wp2_with (
      gi_at_builtin
      refine sl_appIn (H.alloc [.int .i64 x] 3) rfl _ _ _ rfl elemI _ rfl (.there (.there (.here _ _))) [.int .i64 x] rfl rfl (rd_newK _ _ _) (by simp [Value.oneCell']) (by simp only [maxLen]; omega) (by omega) (fun h => by cases h) ?_
      intro v' w3 H3 hnil
      obtain ⟨a', c', rfl, -⟩ := OwnK.slice H3.head
      have H := H3.pull (.there (.there (.here _ _)))
      (have C := H.cells; dsimp only [cellsOf, Pc.cells, cellsFrom, iset, Nat.zero_add, Nat.reduceAdd] at C; (try simp only [true_and, and_true] at C))
      clear H3 hnil)
    have H4 := H.setCell 0 (.slice a' (i + 1) c')
    refine ⟨_, ⟨a', c', rfl⟩, ?_⟩
    rw [htk.out, iv_append]
    exact H4.re (.step (.here _ _) (.step (.here _ _) (.drop (.same _))))
  · rintro V _ D ⟨a, c, rfl⟩ H
    simp only [List.cons_append, List.length_map] at H
    rw [List.take_of_length_le (by simp)] at H
    have H' := H.pull (.there (.here _ _))
    have hl' := Lib.hid hl
    (have C := H.cells; dsimp only [cellsOf, Pc.cells, cellsFrom, iset, Nat.zero_add, Nat.reduceAdd] at C; (try simp only [true_and, and_true] at C))
    generalize hn : xs.length = n at *
    have H2 := Lib.hid H
    have hn' := Lib.hid hn
    clear H H' hn H1
    gi_wp2_with fail
    refine leaveS (v := .slice a n c) H2.out ?_ ?_
    · intro V H
      simp [results, Try.results35, go_sem]
    · intro V H
      exact ⟨a, c, by rw [hn'.out], by rw [hn'.out]; exact H.tail.perm ((List.perm_append_comm (l₁ := L)).cons _)⟩
  · exact fun c i V L D h _ => h.elim

theorem collect_c {g : Nat} {lb : Array Value} {xs : List Int} {A : Nat → List Pc} (hg : GivesS Try.prog g lb (xs.map fun x => #[.int .i64 x]) A A)
    (eg : ∀ args w, (callFunc g args).run Try.prog w = .ok (.enter g args) w) (hl : xs.length ≤ 1000000) (w : World) {L : List Pc} (H : SL w (A 0 ++ L)) :
    Calls Try.prog 31 #[.func (.func g) #[] lb] w fun e w' => ∃ a c, e = .returned (.slice a xs.length c) ∧
      SL w' (.own 3 1 (.slice a xs.length c) xs.length (iv xs) :: (A xs.length ++ L)) := by
  have hc := Lib.hid (appendSeq_c hg eg hl w H)
  clear hg eg
  go_enter Try.func31, Try.ntmps31
  go_wp2_with fail
  refine hc.out.mono ?_
  rintro e w' ⟨a, c, rfl, H2⟩
  go_wp2_with fail
  go_ret
  exact ⟨a, c, rfl, H2⟩
end Go.Proofs.Ytejgkehcplajhaa

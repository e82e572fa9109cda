/- The walk of GramWrites. -/
import Derived.Test.YtilpkfgdlehmpaaDoorSameD
import Derived.Test.YtilpkfgdlehmpaaDoorREnc
import Derived.Test.YtilpkfgdlehmpaaDoorOwnMore
import Derived.Test.YtilpkfgdlehmpaaDoorReg
namespace Go.Proofs.YtilpkfgdlehmpaaDoor
open Go.RowKit Go.Shelf
set_option linter.unusedVariables false

theorem slice_hB (a : Option Addr) (N c Z : Nat) (h : Z ≤ c) (w : World) : (Instr.slice 23 (.slice a N c) none (some (.int .i64 (Z : Int))) none).run Tryd.prog w = .ok (.slice (if c = 0 then a else a.map (·.add 0)) Z c) w := by
  rw [run_slice_h (P := Tryd.prog) (w := w) (t := 23) (a := a) (len := N) (cap := c) (ht := by kernel_rfl) (kh := .i64) (h := (Z : Int)) (by omega) (by omega)]
  rw [show (sizeOf (Tryd.prog.elem 23)).run Tryd.prog w = .ok 1 w by kernel_rfl]
  simp [Result.andThen, sliced]
theorem own_rdB {w : World} {L L' : List Pc} {a : Option Addr} {m c : Nat} {l : List Int} (H : SL w L) (hp : Pull L (.own 5 1 (.slice a m c) m (bv l)) L') (hl : l.length = m) : RdB w a l :=
  (OwnK.rdB (show OwnK w 0 5 1 (.slice a m c) m (bv l) from H.all _ hp.mem)).2.2
theorem RdB.left {w : World} {a : Option Addr} {l k : List Int} (h : RdB w a (l ++ k)) : RdB w a l := by
  intro i hi
  obtain ⟨b, o, e, g⟩ := h i (by rw [List.length_append]; omega)
  refine ⟨b, o, e, ?_⟩
  rw [g]
  dsimp only
  rw [List.getD_eq_getElem?_getD, List.getD_eq_getElem?_getD, List.getElem?_append_left hi]

theorem own_someB {w : World} {L : List Pc} {a : Option Addr} {m c : Nat} {l : List Int} (H : SL w (.own 5 1 (.slice a m c) m (bv l) :: L)) (h0 : 0 < m) : ∃ g, a = some ⟨g, 0, none⟩ ∧ m ≤ c := by
  have h : OwnK w 0 5 1 (.slice a m c) m (bv l) := H.head
  rcases h.form with ⟨e, h2, _⟩ | ⟨g, cap, e, _, _, hc, _⟩
  · omega
  · cases e
    exact ⟨g, rfl, hc⟩

theorem great_c (g : Gm) (d : Value) (a : Option Addr) (n c : Nat) (w : World) (hd : d = .slice a n c) : Calls Tryd.prog 8 #[gmV g d] w fun e w' => e = .returned (.bool (decide ((1000 : Int) < n))) ∧ Kp no w w' := by
  subst hd
  have H := (SL.start w).alloc (gmC g (.slice a n c)) 25
  unfold gmC at H
  have q := H.cell (o := 8) (.here _ _) rfl
  have hH := Lib.hid H
  clear H
  unfold gmV
  go_enter Tryd.func8, Tryd.ntmps8
  go_wp2_with fail
  go_ret
  exact ⟨rfl, hH.out.kp (.there (.here _ _))⟩

theorem rname_any (k : Int) {L : List Pc} {w : World} (H : SL w L) :
    Calls Tryd.prog 16 #[.int .i64 k] w fun e w' => e = .returned (.string (nameS k)) ∧ SL w' L := by
  have hH := Lib.hid H
  by_cases h1 : k < 1
  · have hE : Hid (nameS k = ⟨#[]⟩) := Lib.hid (by unfold nameS nameK; rw [if_neg (by omega), if_neg (by omega), if_neg (by omega)])
    clear H
    go_enter Tryd.func16, Tryd.ntmps16
    go_wp2_with fail
    go_ret
    exact ⟨by rw [hE.out]; rfl, hH.out⟩
  · by_cases h3 : 3 < k
    · have hE : Hid (nameS k = ⟨#[]⟩) := Lib.hid (by unfold nameS nameK; rw [if_neg (by omega), if_neg (by omega), if_neg (by omega)])
      clear H
      go_enter Tryd.func16, Tryd.ntmps16
      go_wp2_with fail
      go_ret
      exact ⟨by rw [hE.out]; rfl, hH.out⟩
    · obtain ⟨K, rfl⟩ := Int.eq_ofNat_of_zero_le (show 0 ≤ k by omega)
      have e : lnB (nameK (K : Int)) [] = nameS (K : Int) := by
        apply ByteArray.ext
        simp [lnB, nameS, Lib.joinTail]
      have := rname_c K (by omega) (by omega) H
      rw [e] at this
      exact this
-- WALK
theorem encR_bytes (g : Gm) : ∀ x ∈ (encR g).1, byteK x := by
  unfold encR
  split
  · exact sealI_bytes _
  · intro x hx; cases hx
theorem own7 {w : World} {L L' : List Pc} {q n oc : Nat} {l : List Int} (H : SL w L) (hp : Pull L (.own 5 1 (.slice (some ⟨q, 0, none⟩) (n + 1) oc) (n + 1) (bv (l ++ [7]))) L') (hl : l.length = n) : w.cell? ⟨q, n, none⟩ = some (.int .u8 7) := by
  have h : OwnK w 0 5 1 (.slice (some ⟨q, 0, none⟩) (n + 1) oc) (n + 1) (bv (l ++ [7])) := H.all _ hp.mem
  rw [(own_cell h (Nat.lt_succ_self n)).1]
  subst hl
  simp [bv]
theorem tabU_no {w V : World} (h : TabU w) (hk : Kp no w V) : TabU V := by
  unfold TabU Lib.TabIs World.var? at *
  cases hg : Program.globalNamed Tryd.prog "internal/strconv.uint64pow10" with
  | none => rw [hg] at h; cases h
  | some g =>
    rw [hg] at h
    simp only [Option.bind_some] at h ⊢
    cases ho : w.heap[g]? with
    | none => rw [ho] at h; cases h
    | some x => rw [hk.at ho (fun h => h)]; rw [ho] at h; exact h
set_option maxRecDepth 100000 in
set_option maxHeartbeats 8000000 in
theorem writes_g (g h : Gm) (a b : Option Addr) (n m ca cb : Nat) (k : Int) (w : World) (hn : ¬ n ≤ 1000) :
    Calls Tryd.prog 3 #[gmV g (.slice a n ca), gmV h (.slice b m cb), .int .i64 k] w fun e w' => e = .returned (.bool true) ∧ Kp no w w' := by
  have H0 := ((SL.start w).alloc (gmC g (.slice a n ca)) 25).alloc (gmC h (.slice b m cb)) 25
  rw [World.size_alloc] at H0
  have hb : decide ((1000 : Int) < n) = true := by simp; omega
  have hc := great_c g _ a n ca ((w.alloc (.cells (gmC g (.slice a n ca)).toArray 25)).alloc (.cells (gmC h (.slice b m cb)).toArray 25)) rfl
  rw [hb] at hc
  have hc' := Lib.hid hc
  clear hc hb hn
  unfold gmC gmV at *
  have p0 := H0.cell (b := w.heap.size) (o := 0) (.there (.here _ _)) rfl
  have p1 := H0.cell (b := w.heap.size) (o := 1) (.there (.here _ _)) rfl
  have p2 := H0.cell (b := w.heap.size) (o := 2) (.there (.here _ _)) rfl
  have p3 := H0.cell (b := w.heap.size) (o := 3) (.there (.here _ _)) rfl
  have p4 := H0.cell (b := w.heap.size) (o := 4) (.there (.here _ _)) rfl
  have p5 := H0.cell (b := w.heap.size) (o := 5) (.there (.here _ _)) rfl
  have p6 := H0.cell (b := w.heap.size) (o := 6) (.there (.here _ _)) rfl
  have p7 := H0.cell (b := w.heap.size) (o := 7) (.there (.here _ _)) rfl
  have p8 := H0.cell (b := w.heap.size) (o := 8) (.there (.here _ _)) rfl
  have hH := Lib.hid H0
  clear H0
  go_enter Tryd.func3, Tryd.ntmps3
  go_wp2_with fail
  refine hc'.out.mono ?_
  rintro e w' ⟨rfl, hK⟩
  have hL := Lib.hid (hH.out.quiet hK)
  clear hH hK hc' p0 p1 p2 p3 p4 p5 p6 p7 p8
  go_wp2_with fail
  go_ret
  exact ⟨rfl, hL.out.kp (.there (.there (.here _ _)))⟩

set_option maxRecDepth 100000 in
set_option maxHeartbeats 8000000 in
theorem writes_h (g h : Gm) (a b : Option Addr) (n m ca cb : Nat) (k : Int) (w : World) (hn : n ≤ 1000) (hm : ¬ m ≤ 1000) :
    Calls Tryd.prog 3 #[gmV g (.slice a n ca), gmV h (.slice b m cb), .int .i64 k] w fun e w' => e = .returned (.bool true) ∧ Kp no w w' := by
  have H0 := ((SL.start w).alloc (gmC g (.slice a n ca)) 25).alloc (gmC h (.slice b m cb)) 25
  rw [World.size_alloc] at H0
  have hb : decide ((1000 : Int) < n) = false := by simp; omega
  have hc := great_c g _ a n ca ((w.alloc (.cells (gmC g (.slice a n ca)).toArray 25)).alloc (.cells (gmC h (.slice b m cb)).toArray 25)) rfl
  rw [hb] at hc
  have hc' := Lib.hid hc
  clear hc hb
  have hd := Lib.hid (fun V => great_c h _ b m cb V rfl)
  have hm1 : decide ((1000 : Int) < m) = true := by simp; omega
  rw [hm1] at hd
  clear hm1
  unfold gmC gmV at *
  have p0 := H0.cell (b := w.heap.size) (o := 0) (.there (.here _ _)) rfl
  have p1 := H0.cell (b := w.heap.size) (o := 1) (.there (.here _ _)) rfl
  have p2 := H0.cell (b := w.heap.size) (o := 2) (.there (.here _ _)) rfl
  have p3 := H0.cell (b := w.heap.size) (o := 3) (.there (.here _ _)) rfl
  have p4 := H0.cell (b := w.heap.size) (o := 4) (.there (.here _ _)) rfl
  have p5 := H0.cell (b := w.heap.size) (o := 5) (.there (.here _ _)) rfl
  have p6 := H0.cell (b := w.heap.size) (o := 6) (.there (.here _ _)) rfl
  have p7 := H0.cell (b := w.heap.size) (o := 7) (.there (.here _ _)) rfl
  have p8 := H0.cell (b := w.heap.size) (o := 8) (.there (.here _ _)) rfl
  have hH := Lib.hid H0
  clear H0
  go_enter Tryd.func3, Tryd.ntmps3
  go_wp2_with fail
  generalize w.heap.size = X at *
  refine hc'.out.mono ?_
  rintro e w1 ⟨rfl, hK⟩
  have H1 := hH.out.quiet hK
  clear hH hK hc' p0 p1 p2 p3 p4 p5 p6 p7 p8
  have p0 := H1.cell (b := X + 1) (o := 0) (.here _ _) rfl
  have p1 := H1.cell (b := X + 1) (o := 1) (.here _ _) rfl
  have p2 := H1.cell (b := X + 1) (o := 2) (.here _ _) rfl
  have p3 := H1.cell (b := X + 1) (o := 3) (.here _ _) rfl
  have p4 := H1.cell (b := X + 1) (o := 4) (.here _ _) rfl
  have p5 := H1.cell (b := X + 1) (o := 5) (.here _ _) rfl
  have p6 := H1.cell (b := X + 1) (o := 6) (.here _ _) rfl
  have p7 := H1.cell (b := X + 1) (o := 7) (.here _ _) rfl
  have p8 := H1.cell (b := X + 1) (o := 8) (.here _ _) rfl
  have hH := Lib.hid H1
  clear H1
  go_wp2_with fail
  refine (hd.out w1).mono ?_
  rintro e w2 ⟨rfl, hK⟩
  have hL := Lib.hid (hH.out.quiet hK)
  clear hH hK hd p0 p1 p2 p3 p4 p5 p6 p7 p8
  go_wp2_with fail
  go_ret
  exact ⟨rfl, hL.out.kp (.there (.there (.here _ _)))⟩

set_option maxRecDepth 100000 in
set_option maxHeartbeats 8000000 in
theorem writes_c (g h : Gm) (og : GmOk g) (oh : GmOk h) (a b : Option Addr) (n m ca cb : Nat) (k : Int) (w : World) (hgl : g.data.length = n) (hhl : h.data.length = m) (hn : n ≤ 1000) (hm : m ≤ 1000) (na : a = none → ca = 0) (rg : RdB w a g.data) (rh : RdB w b h.data) (tab : TabU w) :
    Calls Tryd.prog 3 #[gmV g (.slice a n ca), gmV h (.slice b m cb), .int .i64 k] w fun e w' => e = .returned (.bool true) ∧ Kp no w w' := by
  have hold : Hid (∀ V A, SL V (A ++ [.old w no]) → RdB V a g.data ∧ RdB V b h.data ∧ TabU V) := Lib.hid fun V A hV => by
    have hk : Kp no w V := (hV.perm List.perm_append_comm).kp (.here _ _)
    exact ⟨rg.no hk, rh.no hk, tabU_no tab hk⟩
  have og' := Lib.hid og
  have oh' := Lib.hid oh
  have hgl' := Lib.hid hgl
  have hhl' := Lib.hid hhl
  have na' := Lib.hid na
  clear rg rh tab og oh hgl hhl na
  have H0 := ((SL.start w).alloc (gmC g (.slice a n ca)) 25).alloc (gmC h (.slice b m cb)) 25
  rw [World.size_alloc] at H0
  have hb : decide ((1000 : Int) < n) = false := by simp; omega
  have hc := great_c g _ a n ca ((w.alloc (.cells (gmC g (.slice a n ca)).toArray 25)).alloc (.cells (gmC h (.slice b m cb)).toArray 25)) rfl
  rw [hb] at hc
  have hc' := Lib.hid hc
  clear hc hb
  have hd := Lib.hid (fun V => great_c h _ b m cb V rfl)
  have hm1 : decide ((1000 : Int) < m) = false := by simp; omega
  rw [hm1] at hd
  clear hm1
  unfold gmC gmV at *
  have p0 := H0.cell (b := w.heap.size) (o := 0) (.there (.here _ _)) rfl
  have p1 := H0.cell (b := w.heap.size) (o := 1) (.there (.here _ _)) rfl
  have p2 := H0.cell (b := w.heap.size) (o := 2) (.there (.here _ _)) rfl
  have p3 := H0.cell (b := w.heap.size) (o := 3) (.there (.here _ _)) rfl
  have p4 := H0.cell (b := w.heap.size) (o := 4) (.there (.here _ _)) rfl
  have p5 := H0.cell (b := w.heap.size) (o := 5) (.there (.here _ _)) rfl
  have p6 := H0.cell (b := w.heap.size) (o := 6) (.there (.here _ _)) rfl
  have p7 := H0.cell (b := w.heap.size) (o := 7) (.there (.here _ _)) rfl
  have p8 := H0.cell (b := w.heap.size) (o := 8) (.there (.here _ _)) rfl
  have hH := Lib.hid H0
  clear H0
  go_enter Tryd.func3, Tryd.ntmps3
  go_wp2_with fail
  generalize w.heap.size = X at *
  refine hc'.out.mono ?_
  rintro e w1 ⟨rfl, hK⟩
  have H1 := hH.out.quiet hK
  clear hH hK hc' p0 p1 p2 p3 p4 p5 p6 p7 p8
  have p0 := H1.cell (b := X + 1) (o := 0) (.here _ _) rfl
  have p1 := H1.cell (b := X + 1) (o := 1) (.here _ _) rfl
  have p2 := H1.cell (b := X + 1) (o := 2) (.here _ _) rfl
  have p3 := H1.cell (b := X + 1) (o := 3) (.here _ _) rfl
  have p4 := H1.cell (b := X + 1) (o := 4) (.here _ _) rfl
  have p5 := H1.cell (b := X + 1) (o := 5) (.here _ _) rfl
  have p6 := H1.cell (b := X + 1) (o := 6) (.here _ _) rfl
  have p7 := H1.cell (b := X + 1) (o := 7) (.here _ _) rfl
  have p8 := H1.cell (b := X + 1) (o := 8) (.here _ _) rfl
  have hH := Lib.hid H1
  clear H1
  go_wp2_with fail
  refine (hd.out w1).mono ?_
  rintro e w2 ⟨rfl, hK⟩
  have hL := Lib.hid (hH.out.quiet hK)
  clear hH hK hd p0 p1 p2 p3 p4 p5 p6 p7 p8
  have p0 := hL.out.cell (b := X) (o := 0) (.there (.here _ _)) rfl
  have p1 := hL.out.cell (b := X) (o := 1) (.there (.here _ _)) rfl
  have p2 := hL.out.cell (b := X) (o := 2) (.there (.here _ _)) rfl
  have p3 := hL.out.cell (b := X) (o := 3) (.there (.here _ _)) rfl
  have p4 := hL.out.cell (b := X) (o := 4) (.there (.here _ _)) rfl
  have p5 := hL.out.cell (b := X) (o := 5) (.there (.here _ _)) rfl
  have p6 := hL.out.cell (b := X) (o := 6) (.there (.here _ _)) rfl
  have p7 := hL.out.cell (b := X) (o := 7) (.there (.here _ _)) rfl
  have p8 := hL.out.cell (b := X) (o := 8) (.there (.here _ _)) rfl
  go_wp2_with fail
  have H3 := hL.out.alloc [Value.int .i64 g.fr, .int .i64 g.dst, .int .i64 g.kind, .int .u64 g.n, .int .i64 g.by', .int .u64 g.seq, .int .u64 g.ack, .int .u64 g.mask, .slice a n ca] 25
  have hlt := cell_lt p0
  clear hL p0 p1 p2 p3 p4 p5 p6 p7 p8
  generalize w2.alloc (.cells [Value.int .i64 g.fr, .int .i64 g.dst, .int .i64 g.kind, .int .u64 g.n, .int .i64 g.by', .int .u64 g.seq, .int .u64 g.ack, .int .u64 g.mask, .slice a n ca].toArray 25) = w3 at *
  generalize w2.heap.size = Y at *
  have hH := Lib.hid H3
  clear H3
  refine only_wp (fun a_ w_ => ∃ (q oc : Nat) (v21 v22 v23 v24 v25 v26 v27 v28 v29 v30 v31 : Value), n + 1 ≤ oc ∧ oc ≤ maxLen ∧ a_ = { tmps := #[.agg #[Value.int .i64 g.fr, .int .i64 g.dst, .int .i64 g.kind, .int .u64 g.n, .int .i64 g.by', .int .u64 g.seq, .int .u64 g.ack, .int .u64 g.mask, .slice a n ca], .agg #[Value.int .i64 h.fr, .int .i64 h.dst, .int .i64 h.kind, .int .u64 h.n, .int .i64 h.by', .int .u64 h.seq, .int .u64 h.ack, .int .u64 h.mask, .slice b m cb], .int .i64 k, .pointer (some ⟨X, 0, none⟩), .pointer (some ⟨X + 1, 0, none⟩), undef, .bool false, .pointer (some ⟨Y, 0, none⟩), undef, undef, undef, undef, undef, undef, .agg #[Value.int .i64 g.fr, .int .i64 g.dst, .int .i64 g.kind, .int .u64 g.n, .int .i64 g.by', .int .u64 g.seq, .int .u64 g.ack, .int .u64 g.mask, .slice a n ca], .bool false, .bool false, .agg #[Value.int .i64 h.fr, .int .i64 h.dst, .int .i64 h.kind, .int .u64 h.n, .int .i64 h.by', .int .u64 h.seq, .int .u64 h.ack, .int .u64 h.mask, .slice b m cb], .bool false, .bool false, .agg #[Value.int .i64 g.fr, .int .i64 g.dst, .int .i64 g.kind, .int .u64 g.n, .int .i64 g.by', .int .u64 g.seq, .int .u64 g.ack, .int .u64 g.mask, .slice a n ca], v21, v22, v23, v24, v25, v26, v27, v28, v29, v30, v31, undef, undef, undef, undef, undef, undef, undef, undef, undef, undef, undef, undef, undef, undef, undef, undef, undef, undef, undef, undef, undef, undef, undef, undef, undef, undef, undef, undef, undef, undef, undef, undef, undef, undef, undef, undef, undef, undef, undef, undef, undef, undef, undef, undef, undef, undef, undef, undef, undef, undef, undef, undef, undef, undef, undef, undef, undef, undef, undef, undef, undef, undef, undef, undef, undef, undef, undef, undef, undef, undef, undef, undef, undef, undef, undef, undef, undef, undef, undef, undef], defers := [] } ∧ SL w_ (.blk Y [Value.int .i64 g.fr, .int .i64 g.dst, .int .i64 g.kind, .int .u64 g.n, .int .i64 g.by', .int .u64 g.seq, .int .u64 g.ack, .int .u64 g.mask, .slice (some ⟨q, 0, none⟩) n oc] 25 :: .own 5 1 (.slice (some ⟨q, 0, none⟩) (n + 1) oc) (n + 1) (bv (g.data ++ [7])) :: .blk (X + 1) [Value.int .i64 h.fr, .int .i64 h.dst, .int .i64 h.kind, .int .u64 h.n, .int .i64 h.by', .int .u64 h.seq, .int .u64 h.ack, .int .u64 h.mask, .slice b m cb] 25 :: .blk X [Value.int .i64 g.fr, .int .i64 g.dst, .int .i64 g.kind, .int .u64 g.n, .int .i64 g.by', .int .u64 g.seq, .int .u64 g.ack, .int .u64 g.mask, .slice a n ca] 25 :: [.old w no])) ?_ ?_
  · clear hlt
    refine wp_region_held_drew (S := (fun W => W.cell? ⟨X, 8, none⟩ = some (.slice a n ca))) (by kernel_rfl) ?_ (fun hHeld => ?_)
    · have H := hH.out.drew
      exact H.cell (b := X) (o := 8) (by first | exact .here _ _ | exact .there (.here _ _) | exact .there (.there (.here _ _)) | exact .there (.there (.there (.here _ _))) | exact .there (.there (.there (.there (.here _ _)))) | exact .there (.there (.there (.there (.there (.here _ _))))) | exact .there (.there (.there (.there (.there (.there (.here _ _)))))) | exact .there (.there (.there (.there (.there (.there (.there (.here _ _))))))) | exact .there (.there (.there (.there (.there (.there (.there (.there (.here _ _)))))))) | exact .there (.there (.there (.there (.there (.there (.there (.there (.there (.here _ _))))))))) | exact .there (.there (.there (.there (.there (.there (.there (.there (.there (.there (.here _ _)))))))))) | exact .there (.there (.there (.there (.there (.there (.there (.there (.there (.there (.there (.here _ _))))))))))) | exact .there (.there (.there (.there (.there (.there (.there (.there (.there (.there (.there (.there (.here _ _)))))))))))) | exact .there (.there (.there (.there (.there (.there (.there (.there (.there (.there (.there (.there (.there (.here _ _)))))))))))))) rfl
    have H := hH.out.drew
    generalize World.drew w3 = w4 at *
    clear hH
    refine takeL (i := 1) rfl (by kernel_rfl) (by kernel_rfl) (by kernel_rfl) (fun _ _ _ _ h => h) hHeld ?_ (Or.inl ⟨by rfl, ?_⟩) ?_
    rotate_left
    · intro W hW
      (try dsimp only at hW)
      first | (go_simp; done) | (go_simp; with_reducible rfl)
    ((try simp only [Act.put]); (try simp only [List.setIfInBounds_toArray]); (try simp only [List.set_cons_succ]); (try simp only [List.set_cons_zero]))
    refine takeL (i := 2) rfl (by kernel_rfl) (by kernel_rfl) (by kernel_rfl) (fun _ _ _ _ h => h) hHeld ?_ (Or.inl ⟨by rfl, ?_⟩) ?_
    rotate_left
    · intro W hW
      (try dsimp only at hW)
      first | (go_simp; done) | (go_simp; with_reducible rfl)
    ((try simp only [Act.put]); (try simp only [List.setIfInBounds_toArray]); (try simp only [List.set_cons_succ]); (try simp only [List.set_cons_zero]))
    refine takeL (i := 6) rfl (by kernel_rfl) (by kernel_rfl) (by kernel_rfl) (fun _ _ _ _ h => h) hHeld ?_ (Or.inl ⟨by rfl, ?_⟩) ?_
    rotate_left
    · intro W hW
      (try dsimp only at hW)
      first | (go_simp; done) | (go_simp; with_reducible rfl)
    ((try simp only [Act.put]); (try simp only [List.setIfInBounds_toArray]); (try simp only [List.set_cons_succ]); (try simp only [List.set_cons_zero]))
    refine takeL (i := 7) rfl (by kernel_rfl) (by kernel_rfl) (by kernel_rfl) (fun _ _ _ _ h => h) hHeld ?_ (Or.inl ⟨by rfl, ?_⟩) ?_
    rotate_left
    · intro W hW
      (try dsimp only at hW)
      first | (go_simp; done) | (go_simp; with_reducible rfl)
    ((try simp only [Act.put]); (try simp only [List.setIfInBounds_toArray]); (try simp only [List.set_cons_succ]); (try simp only [List.set_cons_zero]))
    refine takeL (i := 8) rfl (by kernel_rfl) (by kernel_rfl) (by kernel_rfl) (fun _ _ _ _ h => h) hHeld ?_ (Or.inl ⟨by rfl, ?_⟩) ?_
    rotate_left
    · intro W hW
      (try dsimp only at hW)
      first | (go_simp; done) | (go_simp; with_reducible rfl)
    ((try simp only [Act.put]); (try simp only [List.setIfInBounds_toArray]); (try simp only [List.set_cons_succ]); (try simp only [List.set_cons_zero]))
    refine callL2 (i := 0) (j := 4) rfl rfl (by kernel_rfl) (fun K hK => ?_) (fun K hK => ?_)
    · rw [if_pos (by rfl)]
      go_simp
      have H' := H.empty 5
      clear H hHeld
      have H := H'
      clear H'
      try simp only [World.size_alloc] at H
      refine hK.out _ _ ?_ (fun hHeld => ?_)
      · exact H.cell (b := X) (o := 8) (by first | exact .here _ _ | exact .there (.here _ _) | exact .there (.there (.here _ _)) | exact .there (.there (.there (.here _ _))) | exact .there (.there (.there (.there (.here _ _)))) | exact .there (.there (.there (.there (.there (.here _ _))))) | exact .there (.there (.there (.there (.there (.there (.here _ _)))))) | exact .there (.there (.there (.there (.there (.there (.there (.here _ _))))))) | exact .there (.there (.there (.there (.there (.there (.there (.there (.here _ _)))))))) | exact .there (.there (.there (.there (.there (.there (.there (.there (.there (.here _ _))))))))) | exact .there (.there (.there (.there (.there (.there (.there (.there (.there (.there (.here _ _)))))))))) | exact .there (.there (.there (.there (.there (.there (.there (.there (.there (.there (.there (.here _ _))))))))))) | exact .there (.there (.there (.there (.there (.there (.there (.there (.there (.there (.there (.there (.here _ _)))))))))))) | exact .there (.there (.there (.there (.there (.there (.there (.there (.there (.there (.there (.there (.there (.here _ _)))))))))))))) rfl
      clear hK K
      ((try simp only [Act.put]); (try simp only [List.setIfInBounds_toArray]); (try simp only [List.set_cons_succ]); (try simp only [List.set_cons_zero]))
      refine callL2 (i := 3) (j := 4) rfl rfl (by kernel_rfl) (fun K hK => ?_) (fun K hK => ?_)
      · rw [if_pos (by rfl)]
        first | have hr := (hold.out _ [_, _, _, _] H).1 | have hr := (hold.out _ [_, _, _, _, _] H).1
        refine wpo_app H _ _ _ rfl elemB _ rfl (by first | exact .here _ _ | exact .there (.here _ _) | exact .there (.there (.here _ _)) | exact .there (.there (.there (.here _ _))) | exact .there (.there (.there (.there (.here _ _)))) | exact .there (.there (.there (.there (.there (.here _ _))))) | exact .there (.there (.there (.there (.there (.there (.here _ _)))))) | exact .there (.there (.there (.there (.there (.there (.there (.here _ _))))))) | exact .there (.there (.there (.there (.there (.there (.there (.there (.here _ _)))))))) | exact .there (.there (.there (.there (.there (.there (.there (.there (.there (.here _ _))))))))) | exact .there (.there (.there (.there (.there (.there (.there (.there (.there (.there (.here _ _)))))))))) | exact .there (.there (.there (.there (.there (.there (.there (.there (.there (.there (.there (.here _ _))))))))))) | exact .there (.there (.there (.there (.there (.there (.there (.there (.there (.there (.there (.there (.here _ _)))))))))))) | exact .there (.there (.there (.there (.there (.there (.there (.there (.there (.there (.there (.there (.there (.here _ _)))))))))))))) (bv g.data) rfl (by rw [bv_length, Nat.mul_one]; exact hgl'.out) hr.rd (bv_one g.data) (by simp only [maxLen]; omega) (by omega) na'.out ?_
        clear hr H hHeld
        intro oa oc w5 H
        rw [List.nil_append] at H
        simp only [Nat.zero_add] at H ⊢
        refine hK.out _ _ ?_ (fun hHeld => ?_)
        · exact H.cell (b := X) (o := 8) (by first | exact .here _ _ | exact .there (.here _ _) | exact .there (.there (.here _ _)) | exact .there (.there (.there (.here _ _))) | exact .there (.there (.there (.there (.here _ _)))) | exact .there (.there (.there (.there (.there (.here _ _))))) | exact .there (.there (.there (.there (.there (.there (.here _ _)))))) | exact .there (.there (.there (.there (.there (.there (.there (.here _ _))))))) | exact .there (.there (.there (.there (.there (.there (.there (.there (.here _ _)))))))) | exact .there (.there (.there (.there (.there (.there (.there (.there (.there (.here _ _))))))))) | exact .there (.there (.there (.there (.there (.there (.there (.there (.there (.there (.here _ _)))))))))) | exact .there (.there (.there (.there (.there (.there (.there (.there (.there (.there (.there (.here _ _))))))))))) | exact .there (.there (.there (.there (.there (.there (.there (.there (.there (.there (.there (.there (.here _ _)))))))))))) | exact .there (.there (.there (.there (.there (.there (.there (.there (.there (.there (.there (.there (.there (.here _ _)))))))))))))) rfl
        clear hK K
        ((try simp only [Act.put]); (try simp only [List.setIfInBounds_toArray]); (try simp only [List.set_cons_succ]); (try simp only [List.set_cons_zero]))
        refine callL (i := 4) rfl (by kernel_rfl) (fun K hK => ?_)
        rw [if_pos (by rfl)]
        go_simp
        have H' := H.alloc [.int .u8 7] 5
        clear H hHeld
        have H := H'
        clear H'
        try simp only [World.size_alloc] at H
        refine hK.out _ _ ?_ (fun hHeld => ?_)
        · exact H.cell (b := X) (o := 8) (by first | exact .here _ _ | exact .there (.here _ _) | exact .there (.there (.here _ _)) | exact .there (.there (.there (.here _ _))) | exact .there (.there (.there (.there (.here _ _)))) | exact .there (.there (.there (.there (.there (.here _ _))))) | exact .there (.there (.there (.there (.there (.there (.here _ _)))))) | exact .there (.there (.there (.there (.there (.there (.there (.here _ _))))))) | exact .there (.there (.there (.there (.there (.there (.there (.there (.here _ _)))))))) | exact .there (.there (.there (.there (.there (.there (.there (.there (.there (.here _ _))))))))) | exact .there (.there (.there (.there (.there (.there (.there (.there (.there (.there (.here _ _)))))))))) | exact .there (.there (.there (.there (.there (.there (.there (.there (.there (.there (.there (.here _ _))))))))))) | exact .there (.there (.there (.there (.there (.there (.there (.there (.there (.there (.there (.there (.here _ _)))))))))))) | exact .there (.there (.there (.there (.there (.there (.there (.there (.there (.there (.there (.there (.there (.here _ _)))))))))))))) rfl
        clear hK K
        ((try simp only [Act.put]); (try simp only [List.setIfInBounds_toArray]); (try simp only [List.set_cons_succ]); (try simp only [List.set_cons_zero]))
        refine callL (i := 5) rfl (by kernel_rfl) (fun K hK => ?_)
        rw [if_pos (by rfl)]
        refine wpo_app H _ _ _ rfl elemB _ rfl (by first | exact .here _ _ | exact .there (.here _ _) | exact .there (.there (.here _ _)) | exact .there (.there (.there (.here _ _))) | exact .there (.there (.there (.there (.here _ _)))) | exact .there (.there (.there (.there (.there (.here _ _))))) | exact .there (.there (.there (.there (.there (.there (.here _ _)))))) | exact .there (.there (.there (.there (.there (.there (.there (.here _ _))))))) | exact .there (.there (.there (.there (.there (.there (.there (.there (.here _ _)))))))) | exact .there (.there (.there (.there (.there (.there (.there (.there (.there (.here _ _))))))))) | exact .there (.there (.there (.there (.there (.there (.there (.there (.there (.there (.here _ _)))))))))) | exact .there (.there (.there (.there (.there (.there (.there (.there (.there (.there (.there (.here _ _))))))))))) | exact .there (.there (.there (.there (.there (.there (.there (.there (.there (.there (.there (.there (.here _ _)))))))))))) | exact .there (.there (.there (.there (.there (.there (.there (.there (.there (.there (.there (.there (.there (.here _ _)))))))))))))) [.int .u8 7] rfl rfl (H.rdBlk (by first | exact .here _ _ | exact .there (.here _ _) | exact .there (.there (.here _ _)) | exact .there (.there (.there (.here _ _))) | exact .there (.there (.there (.there (.here _ _)))) | exact .there (.there (.there (.there (.there (.here _ _))))) | exact .there (.there (.there (.there (.there (.there (.here _ _)))))) | exact .there (.there (.there (.there (.there (.there (.there (.here _ _))))))) | exact .there (.there (.there (.there (.there (.there (.there (.there (.here _ _)))))))) | exact .there (.there (.there (.there (.there (.there (.there (.there (.there (.here _ _))))))))) | exact .there (.there (.there (.there (.there (.there (.there (.there (.there (.there (.here _ _)))))))))) | exact .there (.there (.there (.there (.there (.there (.there (.there (.there (.there (.there (.here _ _))))))))))) | exact .there (.there (.there (.there (.there (.there (.there (.there (.there (.there (.there (.there (.here _ _)))))))))))) | exact .there (.there (.there (.there (.there (.there (.there (.there (.there (.there (.there (.there (.there (.here _ _))))))))))))))) (by simp [Value.oneCell']) (by simp only [maxLen]; omega) (by omega) (fun h => by cases h) ?_
        clear H hHeld
        intro oa2 oc2 w6 H
        rw [show bv g.data ++ [Value.int .u8 7] = bv (g.data ++ [7]) from by simp [bv]] at H
        obtain ⟨og, rfl, hoc⟩ := own_someB H (by omega)
        have hocm : Hid (oc2 ≤ maxLen) := Lib.hid (by obtain ⟨_, _, e, -, h, -⟩ := OwnK.slice H.head; cases e; exact h)
        have hsl : ∀ W, (Instr.slice 23 (.slice (some ⟨og, 0, none⟩) (n + 1) oc2) none (some (.int .i64 (n : Int))) none).run Tryd.prog W = .ok (.slice (some ⟨og, 0, none⟩) n oc2) W := fun W => by rw [slice_hB _ _ _ _ (by omega), if_neg (by omega)]; rfl
        refine hK.out _ _ ?_ (fun hHeld => ?_)
        · exact H.cell (b := X) (o := 8) (by first | exact .here _ _ | exact .there (.here _ _) | exact .there (.there (.here _ _)) | exact .there (.there (.there (.here _ _))) | exact .there (.there (.there (.there (.here _ _)))) | exact .there (.there (.there (.there (.there (.here _ _))))) | exact .there (.there (.there (.there (.there (.there (.here _ _)))))) | exact .there (.there (.there (.there (.there (.there (.there (.here _ _))))))) | exact .there (.there (.there (.there (.there (.there (.there (.there (.here _ _)))))))) | exact .there (.there (.there (.there (.there (.there (.there (.there (.there (.here _ _))))))))) | exact .there (.there (.there (.there (.there (.there (.there (.there (.there (.there (.here _ _)))))))))) | exact .there (.there (.there (.there (.there (.there (.there (.there (.there (.there (.there (.here _ _))))))))))) | exact .there (.there (.there (.there (.there (.there (.there (.there (.there (.there (.there (.there (.here _ _)))))))))))) | exact .there (.there (.there (.there (.there (.there (.there (.there (.there (.there (.there (.there (.there (.here _ _)))))))))))))) rfl
        clear hK K
        ((try simp only [Act.put]); (try simp only [List.setIfInBounds_toArray]); (try simp only [List.set_cons_succ]); (try simp only [List.set_cons_zero]))
        refine takeL (i := 9) rfl (by kernel_rfl) (by kernel_rfl) (by kernel_rfl) (fun _ _ _ _ h => h) hHeld ?_ (Or.inl ⟨by rfl, ?_⟩) ?_
        rotate_left
        · intro W hW
          (try dsimp only at hW)
          first | (go_simp; done) | (go_simp; with_reducible rfl)
        ((try simp only [Act.put]); (try simp only [List.setIfInBounds_toArray]); (try simp only [List.set_cons_succ]); (try simp only [List.set_cons_zero]))
        refine takeL (i := 10) rfl (by kernel_rfl) (by kernel_rfl) (by kernel_rfl) (fun _ _ _ _ h => h) hHeld ?_ (Or.inl ⟨by rfl, ?_⟩) ?_
        rotate_left
        · intro W hW
          (try dsimp only at hW)
          first | (go_simp; done) | (go_simp; with_reducible rfl)
        ((try simp only [Act.put]); (try simp only [List.setIfInBounds_toArray]); (try simp only [List.set_cons_succ]); (try simp only [List.set_cons_zero]))
        refine callL (i := 11) rfl (by kernel_rfl) (fun K hK => ?_)
        rw [if_pos (by rfl)]
        have cy := H.cell (b := Y) (o := 8) (by first | exact .here _ _ | exact .there (.here _ _) | exact .there (.there (.here _ _)) | exact .there (.there (.there (.here _ _))) | exact .there (.there (.there (.there (.here _ _)))) | exact .there (.there (.there (.there (.there (.here _ _))))) | exact .there (.there (.there (.there (.there (.there (.here _ _)))))) | exact .there (.there (.there (.there (.there (.there (.there (.here _ _))))))) | exact .there (.there (.there (.there (.there (.there (.there (.there (.here _ _)))))))) | exact .there (.there (.there (.there (.there (.there (.there (.there (.there (.here _ _))))))))) | exact .there (.there (.there (.there (.there (.there (.there (.there (.there (.there (.here _ _)))))))))) | exact .there (.there (.there (.there (.there (.there (.there (.there (.there (.there (.there (.here _ _))))))))))) | exact .there (.there (.there (.there (.there (.there (.there (.there (.there (.there (.there (.there (.here _ _)))))))))))) | exact .there (.there (.there (.there (.there (.there (.there (.there (.there (.there (.there (.there (.there (.here _ _)))))))))))))) rfl
        have fy := H.free (b := Y) (by first | exact .here _ _ | exact .there (.here _ _) | exact .there (.there (.here _ _)) | exact .there (.there (.there (.here _ _))) | exact .there (.there (.there (.there (.here _ _)))) | exact .there (.there (.there (.there (.there (.here _ _))))) | exact .there (.there (.there (.there (.there (.there (.here _ _)))))) | exact .there (.there (.there (.there (.there (.there (.there (.here _ _))))))) | exact .there (.there (.there (.there (.there (.there (.there (.there (.here _ _)))))))) | exact .there (.there (.there (.there (.there (.there (.there (.there (.there (.here _ _))))))))) | exact .there (.there (.there (.there (.there (.there (.there (.there (.there (.there (.here _ _)))))))))) | exact .there (.there (.there (.there (.there (.there (.there (.there (.there (.there (.there (.here _ _))))))))))) | exact .there (.there (.there (.there (.there (.there (.there (.there (.there (.there (.there (.there (.here _ _)))))))))))) | exact .there (.there (.there (.there (.there (.there (.there (.there (.there (.there (.there (.there (.there (.here _ _)))))))))))))) 8
        go_simp
        clear cy fy
        have H' := (H.pull (p := .blk Y _ 25) (by first | exact .here _ _ | exact .there (.here _ _) | exact .there (.there (.here _ _)) | exact .there (.there (.there (.here _ _))) | exact .there (.there (.there (.there (.here _ _)))) | exact .there (.there (.there (.there (.there (.here _ _))))) | exact .there (.there (.there (.there (.there (.there (.here _ _)))))) | exact .there (.there (.there (.there (.there (.there (.there (.here _ _))))))) | exact .there (.there (.there (.there (.there (.there (.there (.there (.here _ _)))))))) | exact .there (.there (.there (.there (.there (.there (.there (.there (.there (.here _ _))))))))) | exact .there (.there (.there (.there (.there (.there (.there (.there (.there (.there (.here _ _)))))))))) | exact .there (.there (.there (.there (.there (.there (.there (.there (.there (.there (.there (.here _ _))))))))))) | exact .there (.there (.there (.there (.there (.there (.there (.there (.there (.there (.there (.there (.here _ _)))))))))))) | exact .there (.there (.there (.there (.there (.there (.there (.there (.there (.there (.there (.there (.there (.here _ _))))))))))))))).setCell 8 (.slice (some ⟨og, 0, none⟩) n oc2)
        clear H hHeld
        have H := H'
        clear H'
        refine hK.out _ _ ?_ (fun hHeld => ?_)
        · exact H.cell (b := X) (o := 8) (by first | exact .here _ _ | exact .there (.here _ _) | exact .there (.there (.here _ _)) | exact .there (.there (.there (.here _ _))) | exact .there (.there (.there (.there (.here _ _)))) | exact .there (.there (.there (.there (.there (.here _ _))))) | exact .there (.there (.there (.there (.there (.there (.here _ _)))))) | exact .there (.there (.there (.there (.there (.there (.there (.here _ _))))))) | exact .there (.there (.there (.there (.there (.there (.there (.there (.here _ _)))))))) | exact .there (.there (.there (.there (.there (.there (.there (.there (.there (.here _ _))))))))) | exact .there (.there (.there (.there (.there (.there (.there (.there (.there (.there (.here _ _)))))))))) | exact .there (.there (.there (.there (.there (.there (.there (.there (.there (.there (.there (.here _ _))))))))))) | exact .there (.there (.there (.there (.there (.there (.there (.there (.there (.there (.there (.there (.here _ _)))))))))))) | exact .there (.there (.there (.there (.there (.there (.there (.there (.there (.there (.there (.there (.there (.here _ _)))))))))))))) rfl
        clear hK K
        ((try simp only [Act.put]); (try simp only [List.setIfInBounds_toArray]); (try simp only [List.set_cons_succ]); (try simp only [List.set_cons_zero]))
        refine wpAnyH_done (by kernel_rfl) ?_ _
        exact ⟨og, oc2, _, _, _, _, _, _, _, _, _, _, _, hoc, hocm.out, rfl, H.re (by repeat (first | exact Re.same _ | refine Re.step (by first | exact .here _ _ | exact .there (.here _ _) | exact .there (.there (.here _ _)) | exact .there (.there (.there (.here _ _))) | exact .there (.there (.there (.there (.here _ _)))) | exact .there (.there (.there (.there (.there (.here _ _))))) | exact .there (.there (.there (.there (.there (.there (.here _ _)))))) | exact .there (.there (.there (.there (.there (.there (.there (.here _ _))))))) | exact .there (.there (.there (.there (.there (.there (.there (.there (.here _ _)))))))) | exact .there (.there (.there (.there (.there (.there (.there (.there (.there (.here _ _))))))))) | exact .there (.there (.there (.there (.there (.there (.there (.there (.there (.there (.here _ _)))))))))) | exact .there (.there (.there (.there (.there (.there (.there (.there (.there (.there (.there (.here _ _))))))))))) | exact .there (.there (.there (.there (.there (.there (.there (.there (.there (.there (.there (.there (.here _ _)))))))))))) | exact .there (.there (.there (.there (.there (.there (.there (.there (.there (.there (.there (.there (.there (.here _ _)))))))))))))) ?_ | refine Re.drop ?_))⟩
      · rw [if_pos (by rfl)]
        go_simp
        have H' := H.alloc [.int .u8 7] 5
        clear H hHeld
        have H := H'
        clear H'
        try simp only [World.size_alloc] at H
        refine hK.out _ _ ?_ (fun hHeld => ?_)
        · exact H.cell (b := X) (o := 8) (by first | exact .here _ _ | exact .there (.here _ _) | exact .there (.there (.here _ _)) | exact .there (.there (.there (.here _ _))) | exact .there (.there (.there (.there (.here _ _)))) | exact .there (.there (.there (.there (.there (.here _ _))))) | exact .there (.there (.there (.there (.there (.there (.here _ _)))))) | exact .there (.there (.there (.there (.there (.there (.there (.here _ _))))))) | exact .there (.there (.there (.there (.there (.there (.there (.there (.here _ _)))))))) | exact .there (.there (.there (.there (.there (.there (.there (.there (.there (.here _ _))))))))) | exact .there (.there (.there (.there (.there (.there (.there (.there (.there (.there (.here _ _)))))))))) | exact .there (.there (.there (.there (.there (.there (.there (.there (.there (.there (.there (.here _ _))))))))))) | exact .there (.there (.there (.there (.there (.there (.there (.there (.there (.there (.there (.there (.here _ _)))))))))))) | exact .there (.there (.there (.there (.there (.there (.there (.there (.there (.there (.there (.there (.there (.here _ _)))))))))))))) rfl
        clear hK K
        ((try simp only [Act.put]); (try simp only [List.setIfInBounds_toArray]); (try simp only [List.set_cons_succ]); (try simp only [List.set_cons_zero]))
        refine callL (i := 3) rfl (by kernel_rfl) (fun K hK => ?_)
        rw [if_pos (by rfl)]
        first | have hr := (hold.out _ [_, _, _, _] H).1 | have hr := (hold.out _ [_, _, _, _, _] H).1
        refine wpo_app H _ _ _ rfl elemB _ rfl (by first | exact .here _ _ | exact .there (.here _ _) | exact .there (.there (.here _ _)) | exact .there (.there (.there (.here _ _))) | exact .there (.there (.there (.there (.here _ _)))) | exact .there (.there (.there (.there (.there (.here _ _))))) | exact .there (.there (.there (.there (.there (.there (.here _ _)))))) | exact .there (.there (.there (.there (.there (.there (.there (.here _ _))))))) | exact .there (.there (.there (.there (.there (.there (.there (.there (.here _ _)))))))) | exact .there (.there (.there (.there (.there (.there (.there (.there (.there (.here _ _))))))))) | exact .there (.there (.there (.there (.there (.there (.there (.there (.there (.there (.here _ _)))))))))) | exact .there (.there (.there (.there (.there (.there (.there (.there (.there (.there (.there (.here _ _))))))))))) | exact .there (.there (.there (.there (.there (.there (.there (.there (.there (.there (.there (.there (.here _ _)))))))))))) | exact .there (.there (.there (.there (.there (.there (.there (.there (.there (.there (.there (.there (.there (.here _ _)))))))))))))) (bv g.data) rfl (by rw [bv_length, Nat.mul_one]; exact hgl'.out) hr.rd (bv_one g.data) (by simp only [maxLen]; omega) (by omega) na'.out ?_
        clear hr H hHeld
        intro oa oc w5 H
        rw [List.nil_append] at H
        simp only [Nat.zero_add] at H ⊢
        refine hK.out _ _ ?_ (fun hHeld => ?_)
        · exact H.cell (b := X) (o := 8) (by first | exact .here _ _ | exact .there (.here _ _) | exact .there (.there (.here _ _)) | exact .there (.there (.there (.here _ _))) | exact .there (.there (.there (.there (.here _ _)))) | exact .there (.there (.there (.there (.there (.here _ _))))) | exact .there (.there (.there (.there (.there (.there (.here _ _)))))) | exact .there (.there (.there (.there (.there (.there (.there (.here _ _))))))) | exact .there (.there (.there (.there (.there (.there (.there (.there (.here _ _)))))))) | exact .there (.there (.there (.there (.there (.there (.there (.there (.there (.here _ _))))))))) | exact .there (.there (.there (.there (.there (.there (.there (.there (.there (.there (.here _ _)))))))))) | exact .there (.there (.there (.there (.there (.there (.there (.there (.there (.there (.there (.here _ _))))))))))) | exact .there (.there (.there (.there (.there (.there (.there (.there (.there (.there (.there (.there (.here _ _)))))))))))) | exact .there (.there (.there (.there (.there (.there (.there (.there (.there (.there (.there (.there (.there (.here _ _)))))))))))))) rfl
        clear hK K
        ((try simp only [Act.put]); (try simp only [List.setIfInBounds_toArray]); (try simp only [List.set_cons_succ]); (try simp only [List.set_cons_zero]))
        refine callL (i := 5) rfl (by kernel_rfl) (fun K hK => ?_)
        rw [if_pos (by rfl)]
        refine wpo_app H _ _ _ rfl elemB _ rfl (by first | exact .here _ _ | exact .there (.here _ _) | exact .there (.there (.here _ _)) | exact .there (.there (.there (.here _ _))) | exact .there (.there (.there (.there (.here _ _)))) | exact .there (.there (.there (.there (.there (.here _ _))))) | exact .there (.there (.there (.there (.there (.there (.here _ _)))))) | exact .there (.there (.there (.there (.there (.there (.there (.here _ _))))))) | exact .there (.there (.there (.there (.there (.there (.there (.there (.here _ _)))))))) | exact .there (.there (.there (.there (.there (.there (.there (.there (.there (.here _ _))))))))) | exact .there (.there (.there (.there (.there (.there (.there (.there (.there (.there (.here _ _)))))))))) | exact .there (.there (.there (.there (.there (.there (.there (.there (.there (.there (.there (.here _ _))))))))))) | exact .there (.there (.there (.there (.there (.there (.there (.there (.there (.there (.there (.there (.here _ _)))))))))))) | exact .there (.there (.there (.there (.there (.there (.there (.there (.there (.there (.there (.there (.there (.here _ _)))))))))))))) [.int .u8 7] rfl rfl (H.rdBlk (by first | exact .here _ _ | exact .there (.here _ _) | exact .there (.there (.here _ _)) | exact .there (.there (.there (.here _ _))) | exact .there (.there (.there (.there (.here _ _)))) | exact .there (.there (.there (.there (.there (.here _ _))))) | exact .there (.there (.there (.there (.there (.there (.here _ _)))))) | exact .there (.there (.there (.there (.there (.there (.there (.here _ _))))))) | exact .there (.there (.there (.there (.there (.there (.there (.there (.here _ _)))))))) | exact .there (.there (.there (.there (.there (.there (.there (.there (.there (.here _ _))))))))) | exact .there (.there (.there (.there (.there (.there (.there (.there (.there (.there (.here _ _)))))))))) | exact .there (.there (.there (.there (.there (.there (.there (.there (.there (.there (.there (.here _ _))))))))))) | exact .there (.there (.there (.there (.there (.there (.there (.there (.there (.there (.there (.there (.here _ _)))))))))))) | exact .there (.there (.there (.there (.there (.there (.there (.there (.there (.there (.there (.there (.there (.here _ _))))))))))))))) (by simp [Value.oneCell']) (by simp only [maxLen]; omega) (by omega) (fun h => by cases h) ?_
        clear H hHeld
        intro oa2 oc2 w6 H
        rw [show bv g.data ++ [Value.int .u8 7] = bv (g.data ++ [7]) from by simp [bv]] at H
        obtain ⟨og, rfl, hoc⟩ := own_someB H (by omega)
        have hocm : Hid (oc2 ≤ maxLen) := Lib.hid (by obtain ⟨_, _, e, -, h, -⟩ := OwnK.slice H.head; cases e; exact h)
        have hsl : ∀ W, (Instr.slice 23 (.slice (some ⟨og, 0, none⟩) (n + 1) oc2) none (some (.int .i64 (n : Int))) none).run Tryd.prog W = .ok (.slice (some ⟨og, 0, none⟩) n oc2) W := fun W => by rw [slice_hB _ _ _ _ (by omega), if_neg (by omega)]; rfl
        refine hK.out _ _ ?_ (fun hHeld => ?_)
        · exact H.cell (b := X) (o := 8) (by first | exact .here _ _ | exact .there (.here _ _) | exact .there (.there (.here _ _)) | exact .there (.there (.there (.here _ _))) | exact .there (.there (.there (.there (.here _ _)))) | exact .there (.there (.there (.there (.there (.here _ _))))) | exact .there (.there (.there (.there (.there (.there (.here _ _)))))) | exact .there (.there (.there (.there (.there (.there (.there (.here _ _))))))) | exact .there (.there (.there (.there (.there (.there (.there (.there (.here _ _)))))))) | exact .there (.there (.there (.there (.there (.there (.there (.there (.there (.here _ _))))))))) | exact .there (.there (.there (.there (.there (.there (.there (.there (.there (.there (.here _ _)))))))))) | exact .there (.there (.there (.there (.there (.there (.there (.there (.there (.there (.there (.here _ _))))))))))) | exact .there (.there (.there (.there (.there (.there (.there (.there (.there (.there (.there (.there (.here _ _)))))))))))) | exact .there (.there (.there (.there (.there (.there (.there (.there (.there (.there (.there (.there (.there (.here _ _)))))))))))))) rfl
        clear hK K
        ((try simp only [Act.put]); (try simp only [List.setIfInBounds_toArray]); (try simp only [List.set_cons_succ]); (try simp only [List.set_cons_zero]))
        refine takeL (i := 9) rfl (by kernel_rfl) (by kernel_rfl) (by kernel_rfl) (fun _ _ _ _ h => h) hHeld ?_ (Or.inl ⟨by rfl, ?_⟩) ?_
        rotate_left
        · intro W hW
          (try dsimp only at hW)
          first | (go_simp; done) | (go_simp; with_reducible rfl)
        ((try simp only [Act.put]); (try simp only [List.setIfInBounds_toArray]); (try simp only [List.set_cons_succ]); (try simp only [List.set_cons_zero]))
        refine takeL (i := 10) rfl (by kernel_rfl) (by kernel_rfl) (by kernel_rfl) (fun _ _ _ _ h => h) hHeld ?_ (Or.inl ⟨by rfl, ?_⟩) ?_
        rotate_left
        · intro W hW
          (try dsimp only at hW)
          first | (go_simp; done) | (go_simp; with_reducible rfl)
        ((try simp only [Act.put]); (try simp only [List.setIfInBounds_toArray]); (try simp only [List.set_cons_succ]); (try simp only [List.set_cons_zero]))
        refine callL (i := 11) rfl (by kernel_rfl) (fun K hK => ?_)
        rw [if_pos (by rfl)]
        have cy := H.cell (b := Y) (o := 8) (by first | exact .here _ _ | exact .there (.here _ _) | exact .there (.there (.here _ _)) | exact .there (.there (.there (.here _ _))) | exact .there (.there (.there (.there (.here _ _)))) | exact .there (.there (.there (.there (.there (.here _ _))))) | exact .there (.there (.there (.there (.there (.there (.here _ _)))))) | exact .there (.there (.there (.there (.there (.there (.there (.here _ _))))))) | exact .there (.there (.there (.there (.there (.there (.there (.there (.here _ _)))))))) | exact .there (.there (.there (.there (.there (.there (.there (.there (.there (.here _ _))))))))) | exact .there (.there (.there (.there (.there (.there (.there (.there (.there (.there (.here _ _)))))))))) | exact .there (.there (.there (.there (.there (.there (.there (.there (.there (.there (.there (.here _ _))))))))))) | exact .there (.there (.there (.there (.there (.there (.there (.there (.there (.there (.there (.there (.here _ _)))))))))))) | exact .there (.there (.there (.there (.there (.there (.there (.there (.there (.there (.there (.there (.there (.here _ _)))))))))))))) rfl
        have fy := H.free (b := Y) (by first | exact .here _ _ | exact .there (.here _ _) | exact .there (.there (.here _ _)) | exact .there (.there (.there (.here _ _))) | exact .there (.there (.there (.there (.here _ _)))) | exact .there (.there (.there (.there (.there (.here _ _))))) | exact .there (.there (.there (.there (.there (.there (.here _ _)))))) | exact .there (.there (.there (.there (.there (.there (.there (.here _ _))))))) | exact .there (.there (.there (.there (.there (.there (.there (.there (.here _ _)))))))) | exact .there (.there (.there (.there (.there (.there (.there (.there (.there (.here _ _))))))))) | exact .there (.there (.there (.there (.there (.there (.there (.there (.there (.there (.here _ _)))))))))) | exact .there (.there (.there (.there (.there (.there (.there (.there (.there (.there (.there (.here _ _))))))))))) | exact .there (.there (.there (.there (.there (.there (.there (.there (.there (.there (.there (.there (.here _ _)))))))))))) | exact .there (.there (.there (.there (.there (.there (.there (.there (.there (.there (.there (.there (.there (.here _ _)))))))))))))) 8
        go_simp
        clear cy fy
        have H' := (H.pull (p := .blk Y _ 25) (by first | exact .here _ _ | exact .there (.here _ _) | exact .there (.there (.here _ _)) | exact .there (.there (.there (.here _ _))) | exact .there (.there (.there (.there (.here _ _)))) | exact .there (.there (.there (.there (.there (.here _ _))))) | exact .there (.there (.there (.there (.there (.there (.here _ _)))))) | exact .there (.there (.there (.there (.there (.there (.there (.here _ _))))))) | exact .there (.there (.there (.there (.there (.there (.there (.there (.here _ _)))))))) | exact .there (.there (.there (.there (.there (.there (.there (.there (.there (.here _ _))))))))) | exact .there (.there (.there (.there (.there (.there (.there (.there (.there (.there (.here _ _)))))))))) | exact .there (.there (.there (.there (.there (.there (.there (.there (.there (.there (.there (.here _ _))))))))))) | exact .there (.there (.there (.there (.there (.there (.there (.there (.there (.there (.there (.there (.here _ _)))))))))))) | exact .there (.there (.there (.there (.there (.there (.there (.there (.there (.there (.there (.there (.there (.here _ _))))))))))))))).setCell 8 (.slice (some ⟨og, 0, none⟩) n oc2)
        clear H hHeld
        have H := H'
        clear H'
        refine hK.out _ _ ?_ (fun hHeld => ?_)
        · exact H.cell (b := X) (o := 8) (by first | exact .here _ _ | exact .there (.here _ _) | exact .there (.there (.here _ _)) | exact .there (.there (.there (.here _ _))) | exact .there (.there (.there (.there (.here _ _)))) | exact .there (.there (.there (.there (.there (.here _ _))))) | exact .there (.there (.there (.there (.there (.there (.here _ _)))))) | exact .there (.there (.there (.there (.there (.there (.there (.here _ _))))))) | exact .there (.there (.there (.there (.there (.there (.there (.there (.here _ _)))))))) | exact .there (.there (.there (.there (.there (.there (.there (.there (.there (.here _ _))))))))) | exact .there (.there (.there (.there (.there (.there (.there (.there (.there (.there (.here _ _)))))))))) | exact .there (.there (.there (.there (.there (.there (.there (.there (.there (.there (.there (.here _ _))))))))))) | exact .there (.there (.there (.there (.there (.there (.there (.there (.there (.there (.there (.there (.here _ _)))))))))))) | exact .there (.there (.there (.there (.there (.there (.there (.there (.there (.there (.there (.there (.there (.here _ _)))))))))))))) rfl
        clear hK K
        ((try simp only [Act.put]); (try simp only [List.setIfInBounds_toArray]); (try simp only [List.set_cons_succ]); (try simp only [List.set_cons_zero]))
        refine wpAnyH_done (by kernel_rfl) ?_ _
        exact ⟨og, oc2, _, _, _, _, _, _, _, _, _, _, _, hoc, hocm.out, rfl, H.re (by repeat (first | exact Re.same _ | refine Re.step (by first | exact .here _ _ | exact .there (.here _ _) | exact .there (.there (.here _ _)) | exact .there (.there (.there (.here _ _))) | exact .there (.there (.there (.there (.here _ _)))) | exact .there (.there (.there (.there (.there (.here _ _))))) | exact .there (.there (.there (.there (.there (.there (.here _ _)))))) | exact .there (.there (.there (.there (.there (.there (.there (.here _ _))))))) | exact .there (.there (.there (.there (.there (.there (.there (.there (.here _ _)))))))) | exact .there (.there (.there (.there (.there (.there (.there (.there (.there (.here _ _))))))))) | exact .there (.there (.there (.there (.there (.there (.there (.there (.there (.there (.here _ _)))))))))) | exact .there (.there (.there (.there (.there (.there (.there (.there (.there (.there (.there (.here _ _))))))))))) | exact .there (.there (.there (.there (.there (.there (.there (.there (.there (.there (.there (.there (.here _ _)))))))))))) | exact .there (.there (.there (.there (.there (.there (.there (.there (.there (.there (.there (.there (.there (.here _ _)))))))))))))) ?_ | refine Re.drop ?_))⟩
    · rw [if_pos (by rfl)]
      go_simp
      have H' := H.alloc [.int .u8 7] 5
      clear H hHeld
      have H := H'
      clear H'
      try simp only [World.size_alloc] at H
      refine hK.out _ _ ?_ (fun hHeld => ?_)
      · exact H.cell (b := X) (o := 8) (by first | exact .here _ _ | exact .there (.here _ _) | exact .there (.there (.here _ _)) | exact .there (.there (.there (.here _ _))) | exact .there (.there (.there (.there (.here _ _)))) | exact .there (.there (.there (.there (.there (.here _ _))))) | exact .there (.there (.there (.there (.there (.there (.here _ _)))))) | exact .there (.there (.there (.there (.there (.there (.there (.here _ _))))))) | exact .there (.there (.there (.there (.there (.there (.there (.there (.here _ _)))))))) | exact .there (.there (.there (.there (.there (.there (.there (.there (.there (.here _ _))))))))) | exact .there (.there (.there (.there (.there (.there (.there (.there (.there (.there (.here _ _)))))))))) | exact .there (.there (.there (.there (.there (.there (.there (.there (.there (.there (.there (.here _ _))))))))))) | exact .there (.there (.there (.there (.there (.there (.there (.there (.there (.there (.there (.there (.here _ _)))))))))))) | exact .there (.there (.there (.there (.there (.there (.there (.there (.there (.there (.there (.there (.there (.here _ _)))))))))))))) rfl
      clear hK K
      ((try simp only [Act.put]); (try simp only [List.setIfInBounds_toArray]); (try simp only [List.set_cons_succ]); (try simp only [List.set_cons_zero]))
      refine callL (i := 0) rfl (by kernel_rfl) (fun K hK => ?_)
      rw [if_pos (by rfl)]
      go_simp
      have H' := H.empty 5
      clear H hHeld
      have H := H'
      clear H'
      try simp only [World.size_alloc] at H
      refine hK.out _ _ ?_ (fun hHeld => ?_)
      · exact H.cell (b := X) (o := 8) (by first | exact .here _ _ | exact .there (.here _ _) | exact .there (.there (.here _ _)) | exact .there (.there (.there (.here _ _))) | exact .there (.there (.there (.there (.here _ _)))) | exact .there (.there (.there (.there (.there (.here _ _))))) | exact .there (.there (.there (.there (.there (.there (.here _ _)))))) | exact .there (.there (.there (.there (.there (.there (.there (.here _ _))))))) | exact .there (.there (.there (.there (.there (.there (.there (.there (.here _ _)))))))) | exact .there (.there (.there (.there (.there (.there (.there (.there (.there (.here _ _))))))))) | exact .there (.there (.there (.there (.there (.there (.there (.there (.there (.there (.here _ _)))))))))) | exact .there (.there (.there (.there (.there (.there (.there (.there (.there (.there (.there (.here _ _))))))))))) | exact .there (.there (.there (.there (.there (.there (.there (.there (.there (.there (.there (.there (.here _ _)))))))))))) | exact .there (.there (.there (.there (.there (.there (.there (.there (.there (.there (.there (.there (.there (.here _ _)))))))))))))) rfl
      clear hK K
      ((try simp only [Act.put]); (try simp only [List.setIfInBounds_toArray]); (try simp only [List.set_cons_succ]); (try simp only [List.set_cons_zero]))
      refine callL (i := 3) rfl (by kernel_rfl) (fun K hK => ?_)
      rw [if_pos (by rfl)]
      first | have hr := (hold.out _ [_, _, _, _] H).1 | have hr := (hold.out _ [_, _, _, _, _] H).1
      refine wpo_app H _ _ _ rfl elemB _ rfl (by first | exact .here _ _ | exact .there (.here _ _) | exact .there (.there (.here _ _)) | exact .there (.there (.there (.here _ _))) | exact .there (.there (.there (.there (.here _ _)))) | exact .there (.there (.there (.there (.there (.here _ _))))) | exact .there (.there (.there (.there (.there (.there (.here _ _)))))) | exact .there (.there (.there (.there (.there (.there (.there (.here _ _))))))) | exact .there (.there (.there (.there (.there (.there (.there (.there (.here _ _)))))))) | exact .there (.there (.there (.there (.there (.there (.there (.there (.there (.here _ _))))))))) | exact .there (.there (.there (.there (.there (.there (.there (.there (.there (.there (.here _ _)))))))))) | exact .there (.there (.there (.there (.there (.there (.there (.there (.there (.there (.there (.here _ _))))))))))) | exact .there (.there (.there (.there (.there (.there (.there (.there (.there (.there (.there (.there (.here _ _)))))))))))) | exact .there (.there (.there (.there (.there (.there (.there (.there (.there (.there (.there (.there (.there (.here _ _)))))))))))))) (bv g.data) rfl (by rw [bv_length, Nat.mul_one]; exact hgl'.out) hr.rd (bv_one g.data) (by simp only [maxLen]; omega) (by omega) na'.out ?_
      clear hr H hHeld
      intro oa oc w5 H
      rw [List.nil_append] at H
      simp only [Nat.zero_add] at H ⊢
      refine hK.out _ _ ?_ (fun hHeld => ?_)
      · exact H.cell (b := X) (o := 8) (by first | exact .here _ _ | exact .there (.here _ _) | exact .there (.there (.here _ _)) | exact .there (.there (.there (.here _ _))) | exact .there (.there (.there (.there (.here _ _)))) | exact .there (.there (.there (.there (.there (.here _ _))))) | exact .there (.there (.there (.there (.there (.there (.here _ _)))))) | exact .there (.there (.there (.there (.there (.there (.there (.here _ _))))))) | exact .there (.there (.there (.there (.there (.there (.there (.there (.here _ _)))))))) | exact .there (.there (.there (.there (.there (.there (.there (.there (.there (.here _ _))))))))) | exact .there (.there (.there (.there (.there (.there (.there (.there (.there (.there (.here _ _)))))))))) | exact .there (.there (.there (.there (.there (.there (.there (.there (.there (.there (.there (.here _ _))))))))))) | exact .there (.there (.there (.there (.there (.there (.there (.there (.there (.there (.there (.there (.here _ _)))))))))))) | exact .there (.there (.there (.there (.there (.there (.there (.there (.there (.there (.there (.there (.there (.here _ _)))))))))))))) rfl
      clear hK K
      ((try simp only [Act.put]); (try simp only [List.setIfInBounds_toArray]); (try simp only [List.set_cons_succ]); (try simp only [List.set_cons_zero]))
      refine callL (i := 5) rfl (by kernel_rfl) (fun K hK => ?_)
      rw [if_pos (by rfl)]
      refine wpo_app H _ _ _ rfl elemB _ rfl (by first | exact .here _ _ | exact .there (.here _ _) | exact .there (.there (.here _ _)) | exact .there (.there (.there (.here _ _))) | exact .there (.there (.there (.there (.here _ _)))) | exact .there (.there (.there (.there (.there (.here _ _))))) | exact .there (.there (.there (.there (.there (.there (.here _ _)))))) | exact .there (.there (.there (.there (.there (.there (.there (.here _ _))))))) | exact .there (.there (.there (.there (.there (.there (.there (.there (.here _ _)))))))) | exact .there (.there (.there (.there (.there (.there (.there (.there (.there (.here _ _))))))))) | exact .there (.there (.there (.there (.there (.there (.there (.there (.there (.there (.here _ _)))))))))) | exact .there (.there (.there (.there (.there (.there (.there (.there (.there (.there (.there (.here _ _))))))))))) | exact .there (.there (.there (.there (.there (.there (.there (.there (.there (.there (.there (.there (.here _ _)))))))))))) | exact .there (.there (.there (.there (.there (.there (.there (.there (.there (.there (.there (.there (.there (.here _ _)))))))))))))) [.int .u8 7] rfl rfl (H.rdBlk (by first | exact .here _ _ | exact .there (.here _ _) | exact .there (.there (.here _ _)) | exact .there (.there (.there (.here _ _))) | exact .there (.there (.there (.there (.here _ _)))) | exact .there (.there (.there (.there (.there (.here _ _))))) | exact .there (.there (.there (.there (.there (.there (.here _ _)))))) | exact .there (.there (.there (.there (.there (.there (.there (.here _ _))))))) | exact .there (.there (.there (.there (.there (.there (.there (.there (.here _ _)))))))) | exact .there (.there (.there (.there (.there (.there (.there (.there (.there (.here _ _))))))))) | exact .there (.there (.there (.there (.there (.there (.there (.there (.there (.there (.here _ _)))))))))) | exact .there (.there (.there (.there (.there (.there (.there (.there (.there (.there (.there (.here _ _))))))))))) | exact .there (.there (.there (.there (.there (.there (.there (.there (.there (.there (.there (.there (.here _ _)))))))))))) | exact .there (.there (.there (.there (.there (.there (.there (.there (.there (.there (.there (.there (.there (.here _ _))))))))))))))) (by simp [Value.oneCell']) (by simp only [maxLen]; omega) (by omega) (fun h => by cases h) ?_
      clear H hHeld
      intro oa2 oc2 w6 H
      rw [show bv g.data ++ [Value.int .u8 7] = bv (g.data ++ [7]) from by simp [bv]] at H
      obtain ⟨og, rfl, hoc⟩ := own_someB H (by omega)
      have hocm : Hid (oc2 ≤ maxLen) := Lib.hid (by obtain ⟨_, _, e, -, h, -⟩ := OwnK.slice H.head; cases e; exact h)
      have hsl : ∀ W, (Instr.slice 23 (.slice (some ⟨og, 0, none⟩) (n + 1) oc2) none (some (.int .i64 (n : Int))) none).run Tryd.prog W = .ok (.slice (some ⟨og, 0, none⟩) n oc2) W := fun W => by rw [slice_hB _ _ _ _ (by omega), if_neg (by omega)]; rfl
      refine hK.out _ _ ?_ (fun hHeld => ?_)
      · exact H.cell (b := X) (o := 8) (by first | exact .here _ _ | exact .there (.here _ _) | exact .there (.there (.here _ _)) | exact .there (.there (.there (.here _ _))) | exact .there (.there (.there (.there (.here _ _)))) | exact .there (.there (.there (.there (.there (.here _ _))))) | exact .there (.there (.there (.there (.there (.there (.here _ _)))))) | exact .there (.there (.there (.there (.there (.there (.there (.here _ _))))))) | exact .there (.there (.there (.there (.there (.there (.there (.there (.here _ _)))))))) | exact .there (.there (.there (.there (.there (.there (.there (.there (.there (.here _ _))))))))) | exact .there (.there (.there (.there (.there (.there (.there (.there (.there (.there (.here _ _)))))))))) | exact .there (.there (.there (.there (.there (.there (.there (.there (.there (.there (.there (.here _ _))))))))))) | exact .there (.there (.there (.there (.there (.there (.there (.there (.there (.there (.there (.there (.here _ _)))))))))))) | exact .there (.there (.there (.there (.there (.there (.there (.there (.there (.there (.there (.there (.there (.here _ _)))))))))))))) rfl
      clear hK K
      ((try simp only [Act.put]); (try simp only [List.setIfInBounds_toArray]); (try simp only [List.set_cons_succ]); (try simp only [List.set_cons_zero]))
      refine takeL (i := 9) rfl (by kernel_rfl) (by kernel_rfl) (by kernel_rfl) (fun _ _ _ _ h => h) hHeld ?_ (Or.inl ⟨by rfl, ?_⟩) ?_
      rotate_left
      · intro W hW
        (try dsimp only at hW)
        first | (go_simp; done) | (go_simp; with_reducible rfl)
      ((try simp only [Act.put]); (try simp only [List.setIfInBounds_toArray]); (try simp only [List.set_cons_succ]); (try simp only [List.set_cons_zero]))
      refine takeL (i := 10) rfl (by kernel_rfl) (by kernel_rfl) (by kernel_rfl) (fun _ _ _ _ h => h) hHeld ?_ (Or.inl ⟨by rfl, ?_⟩) ?_
      rotate_left
      · intro W hW
        (try dsimp only at hW)
        first | (go_simp; done) | (go_simp; with_reducible rfl)
      ((try simp only [Act.put]); (try simp only [List.setIfInBounds_toArray]); (try simp only [List.set_cons_succ]); (try simp only [List.set_cons_zero]))
      refine callL (i := 11) rfl (by kernel_rfl) (fun K hK => ?_)
      rw [if_pos (by rfl)]
      have cy := H.cell (b := Y) (o := 8) (by first | exact .here _ _ | exact .there (.here _ _) | exact .there (.there (.here _ _)) | exact .there (.there (.there (.here _ _))) | exact .there (.there (.there (.there (.here _ _)))) | exact .there (.there (.there (.there (.there (.here _ _))))) | exact .there (.there (.there (.there (.there (.there (.here _ _)))))) | exact .there (.there (.there (.there (.there (.there (.there (.here _ _))))))) | exact .there (.there (.there (.there (.there (.there (.there (.there (.here _ _)))))))) | exact .there (.there (.there (.there (.there (.there (.there (.there (.there (.here _ _))))))))) | exact .there (.there (.there (.there (.there (.there (.there (.there (.there (.there (.here _ _)))))))))) | exact .there (.there (.there (.there (.there (.there (.there (.there (.there (.there (.there (.here _ _))))))))))) | exact .there (.there (.there (.there (.there (.there (.there (.there (.there (.there (.there (.there (.here _ _)))))))))))) | exact .there (.there (.there (.there (.there (.there (.there (.there (.there (.there (.there (.there (.there (.here _ _)))))))))))))) rfl
      have fy := H.free (b := Y) (by first | exact .here _ _ | exact .there (.here _ _) | exact .there (.there (.here _ _)) | exact .there (.there (.there (.here _ _))) | exact .there (.there (.there (.there (.here _ _)))) | exact .there (.there (.there (.there (.there (.here _ _))))) | exact .there (.there (.there (.there (.there (.there (.here _ _)))))) | exact .there (.there (.there (.there (.there (.there (.there (.here _ _))))))) | exact .there (.there (.there (.there (.there (.there (.there (.there (.here _ _)))))))) | exact .there (.there (.there (.there (.there (.there (.there (.there (.there (.here _ _))))))))) | exact .there (.there (.there (.there (.there (.there (.there (.there (.there (.there (.here _ _)))))))))) | exact .there (.there (.there (.there (.there (.there (.there (.there (.there (.there (.there (.here _ _))))))))))) | exact .there (.there (.there (.there (.there (.there (.there (.there (.there (.there (.there (.there (.here _ _)))))))))))) | exact .there (.there (.there (.there (.there (.there (.there (.there (.there (.there (.there (.there (.there (.here _ _)))))))))))))) 8
      go_simp
      clear cy fy
      have H' := (H.pull (p := .blk Y _ 25) (by first | exact .here _ _ | exact .there (.here _ _) | exact .there (.there (.here _ _)) | exact .there (.there (.there (.here _ _))) | exact .there (.there (.there (.there (.here _ _)))) | exact .there (.there (.there (.there (.there (.here _ _))))) | exact .there (.there (.there (.there (.there (.there (.here _ _)))))) | exact .there (.there (.there (.there (.there (.there (.there (.here _ _))))))) | exact .there (.there (.there (.there (.there (.there (.there (.there (.here _ _)))))))) | exact .there (.there (.there (.there (.there (.there (.there (.there (.there (.here _ _))))))))) | exact .there (.there (.there (.there (.there (.there (.there (.there (.there (.there (.here _ _)))))))))) | exact .there (.there (.there (.there (.there (.there (.there (.there (.there (.there (.there (.here _ _))))))))))) | exact .there (.there (.there (.there (.there (.there (.there (.there (.there (.there (.there (.there (.here _ _)))))))))))) | exact .there (.there (.there (.there (.there (.there (.there (.there (.there (.there (.there (.there (.there (.here _ _))))))))))))))).setCell 8 (.slice (some ⟨og, 0, none⟩) n oc2)
      clear H hHeld
      have H := H'
      clear H'
      refine hK.out _ _ ?_ (fun hHeld => ?_)
      · exact H.cell (b := X) (o := 8) (by first | exact .here _ _ | exact .there (.here _ _) | exact .there (.there (.here _ _)) | exact .there (.there (.there (.here _ _))) | exact .there (.there (.there (.there (.here _ _)))) | exact .there (.there (.there (.there (.there (.here _ _))))) | exact .there (.there (.there (.there (.there (.there (.here _ _)))))) | exact .there (.there (.there (.there (.there (.there (.there (.here _ _))))))) | exact .there (.there (.there (.there (.there (.there (.there (.there (.here _ _)))))))) | exact .there (.there (.there (.there (.there (.there (.there (.there (.there (.here _ _))))))))) | exact .there (.there (.there (.there (.there (.there (.there (.there (.there (.there (.here _ _)))))))))) | exact .there (.there (.there (.there (.there (.there (.there (.there (.there (.there (.there (.here _ _))))))))))) | exact .there (.there (.there (.there (.there (.there (.there (.there (.there (.there (.there (.there (.here _ _)))))))))))) | exact .there (.there (.there (.there (.there (.there (.there (.there (.there (.there (.there (.there (.there (.here _ _)))))))))))))) rfl
      clear hK K
      ((try simp only [Act.put]); (try simp only [List.setIfInBounds_toArray]); (try simp only [List.set_cons_succ]); (try simp only [List.set_cons_zero]))
      refine wpAnyH_done (by kernel_rfl) ?_ _
      exact ⟨og, oc2, _, _, _, _, _, _, _, _, _, _, _, hoc, hocm.out, rfl, H.re (by repeat (first | exact Re.same _ | refine Re.step (by first | exact .here _ _ | exact .there (.here _ _) | exact .there (.there (.here _ _)) | exact .there (.there (.there (.here _ _))) | exact .there (.there (.there (.there (.here _ _)))) | exact .there (.there (.there (.there (.there (.here _ _))))) | exact .there (.there (.there (.there (.there (.there (.here _ _)))))) | exact .there (.there (.there (.there (.there (.there (.there (.here _ _))))))) | exact .there (.there (.there (.there (.there (.there (.there (.there (.here _ _)))))))) | exact .there (.there (.there (.there (.there (.there (.there (.there (.there (.here _ _))))))))) | exact .there (.there (.there (.there (.there (.there (.there (.there (.there (.there (.here _ _)))))))))) | exact .there (.there (.there (.there (.there (.there (.there (.there (.there (.there (.there (.here _ _))))))))))) | exact .there (.there (.there (.there (.there (.there (.there (.there (.there (.there (.there (.there (.here _ _)))))))))))) | exact .there (.there (.there (.there (.there (.there (.there (.there (.there (.there (.there (.there (.there (.here _ _)))))))))))))) ?_ | refine Re.drop ?_))⟩
  rintro _ w4 ⟨q, oc, v21, v22, v23, v24, v25, v26, v27, v28, v29, v30, v31, hoc, hocm, rfl, H4⟩
  have hL := Lib.hid H4
  clear H4 hH hlt
  have hold2 : Hid (∀ V A, SL V (A ++ [.blk Y [Value.int .i64 g.fr, .int .i64 g.dst, .int .i64 g.kind, .int .u64 g.n, .int .i64 g.by', .int .u64 g.seq, .int .u64 g.ack, .int .u64 g.mask, .slice (some ⟨q, 0, none⟩) n oc] 25, .own 5 1 (.slice (some ⟨q, 0, none⟩) (n + 1) oc) (n + 1) (bv (g.data ++ [7])), .blk (X + 1) [Value.int .i64 h.fr, .int .i64 h.dst, .int .i64 h.kind, .int .u64 h.n, .int .i64 h.by', .int .u64 h.seq, .int .u64 h.ack, .int .u64 h.mask, .slice b m cb] 25, .blk X [Value.int .i64 g.fr, .int .i64 g.dst, .int .i64 g.kind, .int .u64 g.n, .int .i64 g.by', .int .u64 g.seq, .int .u64 g.ack, .int .u64 g.mask, .slice a n ca] 25, .old w no]) → RdB V (some ⟨q, 0, none⟩) g.data ∧ RdB V a g.data ∧ RdB V b h.data ∧ TabU V) := Lib.hid fun V A hV => by
    have h1 := hold.out V (A ++ [_, _, _, _]) (by rw [List.append_assoc]; exact hV)
    have h2 := hV.perm List.perm_append_comm
    exact ⟨(own_rdB h2 (.there (.here _ _)) (by rw [List.length_append, hgl'.out]; rfl)).left, h1⟩
  have hm4 : oc ≤ 9223372036854775807 := hocm
  clear hocm hold
  obtain ⟨B, hB⟩ : ∃ B, (encR g).1 = B := ⟨_, rfl⟩
  obtain ⟨E, hE⟩ : ∃ E, (encR g).2 = E := ⟨_, rfl⟩
  obtain ⟨N, hN⟩ : ∃ N, B.length = N := ⟨_, rfl⟩
  have hN' := Lib.hid hN
  have hBy : Hid (∀ x ∈ B, byteK x) := Lib.hid (by rw [← hB]; exact encR_bytes g)
  have e1 := fun (V : World) (L : List Pc) (HL : SL V L) h1 => enc_c g og'.out (some ⟨q, 0, none⟩) oc (w := V) (L := L) HL (fun h => by cases h) (by rw [hgl'.out]; exact hn) h1
  have e2 := fun (V : World) (L : List Pc) (HL : SL V L) h1 => renc_c g og'.out a ca (w := V) (L := L) HL na'.out (by rw [hgl'.out]; exact hn) h1
  unfold EncPost at e1 e2
  rw [hB, hE, hgl'.out, hN] at e1 e2
  have e3 := fun (V : World) (L : List Pc) (HL : SL V L) E hE => chk_c g og'.out (some ⟨q, 0, none⟩) oc (w := V) (L := L) HL E hE
  have e4 := fun (V : World) (L : List Pc) (HL : SL V L) M hM => may_c g a ca (w := V) (L := L) HL M hM
  rw [hgl'.out] at e3 e4
  have e1' := Lib.hid (e1 _ _ hL.out fun V h => (hold2.out V [] h).1)
  have e2' := Lib.hid e2
  have e3' := Lib.hid e3
  have e4' := Lib.hid e4
  clear e1 e2 e3 e4 hB hE hN
  unfold gmV at *
  have p0 := hL.out.cell (b := Y) (o := 0) (.here _ _) rfl
  have p1 := hL.out.cell (b := Y) (o := 1) (.here _ _) rfl
  have p2 := hL.out.cell (b := Y) (o := 2) (.here _ _) rfl
  have p3 := hL.out.cell (b := Y) (o := 3) (.here _ _) rfl
  have p4 := hL.out.cell (b := Y) (o := 4) (.here _ _) rfl
  have p5 := hL.out.cell (b := Y) (o := 5) (.here _ _) rfl
  have p6 := hL.out.cell (b := Y) (o := 6) (.here _ _) rfl
  have p7 := hL.out.cell (b := Y) (o := 7) (.here _ _) rfl
  have p8 := hL.out.cell (b := Y) (o := 8) (.here _ _) rfl
  go_wp2_with fail
  refine e1'.out.mono ?_
  rintro e w5 ⟨ea, ec, rfl, H5⟩
  clear e1' hL p0 p1 p2 p3 p4 p5 p6 p7 p8
  have hL := Lib.hid H5
  clear H5
  have p0 := hL.out.cell (b := X) (o := 0) (.there (.there (.there (.there (.here _ _))))) rfl
  have p1 := hL.out.cell (b := X) (o := 1) (.there (.there (.there (.there (.here _ _))))) rfl
  have p2 := hL.out.cell (b := X) (o := 2) (.there (.there (.there (.there (.here _ _))))) rfl
  have p3 := hL.out.cell (b := X) (o := 3) (.there (.there (.there (.there (.here _ _))))) rfl
  have p4 := hL.out.cell (b := X) (o := 4) (.there (.there (.there (.there (.here _ _))))) rfl
  have p5 := hL.out.cell (b := X) (o := 5) (.there (.there (.there (.there (.here _ _))))) rfl
  have p6 := hL.out.cell (b := X) (o := 6) (.there (.there (.there (.there (.here _ _))))) rfl
  have p7 := hL.out.cell (b := X) (o := 7) (.there (.there (.there (.there (.here _ _))))) rfl
  have p8 := hL.out.cell (b := X) (o := 8) (.there (.there (.there (.there (.here _ _))))) rfl
  have e2 := Lib.hid (e2'.out _ _ hL.out fun V h => (hold2.out V [_] h).2.1)
  clear e2'
  go_wp2_with fail
  refine e2.out.mono ?_
  rintro e w6 ⟨fa, fc, rfl, H6⟩
  clear e2 hL p0 p1 p2 p3 p4 p5 p6 p7 p8
  have hL := Lib.hid H6
  clear H6
  obtain ⟨M, E0, hM, hE0, hME⟩ : ∃ M E0, decide (mayK g) = M ∧ E0 = (if mayK g then 0 else 180) ∧ ((M = true ∧ E0 = (0 : Int)) ∨ (M = false ∧ E0 = 180)) := by
    by_cases h : mayK g
    · exact ⟨true, 0, decide_eq_true h, by rw [if_pos h], .inl ⟨rfl, rfl⟩⟩
    · exact ⟨false, 180, decide_eq_false h, by rw [if_neg h], .inr ⟨rfl, rfl⟩⟩
  have e3 := Lib.hid (e3'.out _ _ hL.out E0 hE0)
  have hM' := Lib.hid hM
  have hME' := Lib.hid hME
  clear e3' hE0 hM hME
  have p0 := hL.out.cell (b := Y) (o := 0) (.there (.there (.here _ _))) rfl
  have p1 := hL.out.cell (b := Y) (o := 1) (.there (.there (.here _ _))) rfl
  have p2 := hL.out.cell (b := Y) (o := 2) (.there (.there (.here _ _))) rfl
  have p3 := hL.out.cell (b := Y) (o := 3) (.there (.there (.here _ _))) rfl
  have p4 := hL.out.cell (b := Y) (o := 4) (.there (.there (.here _ _))) rfl
  have p5 := hL.out.cell (b := Y) (o := 5) (.there (.there (.here _ _))) rfl
  have p6 := hL.out.cell (b := Y) (o := 6) (.there (.there (.here _ _))) rfl
  have p7 := hL.out.cell (b := Y) (o := 7) (.there (.there (.here _ _))) rfl
  have p8 := hL.out.cell (b := Y) (o := 8) (.there (.there (.here _ _))) rfl
  go_wp2_with fail
  refine e3.out.mono ?_
  rintro e w7 ⟨rfl, H7⟩
  clear e3 hL p0 p1 p2 p3 p4 p5 p6 p7 p8
  have hL := Lib.hid H7
  clear H7
  have e4 := Lib.hid (e4'.out _ _ hL.out M hM'.out)
  clear e4' hM'
  have p0 := hL.out.cell (b := X) (o := 0) (.there (.there (.there (.there (.there (.here _ _)))))) rfl
  have p1 := hL.out.cell (b := X) (o := 1) (.there (.there (.there (.there (.there (.here _ _)))))) rfl
  have p2 := hL.out.cell (b := X) (o := 2) (.there (.there (.there (.there (.there (.here _ _)))))) rfl
  have p3 := hL.out.cell (b := X) (o := 3) (.there (.there (.there (.there (.there (.here _ _)))))) rfl
  have p4 := hL.out.cell (b := X) (o := 4) (.there (.there (.there (.there (.there (.here _ _)))))) rfl
  have p5 := hL.out.cell (b := X) (o := 5) (.there (.there (.there (.there (.there (.here _ _)))))) rfl
  have p6 := hL.out.cell (b := X) (o := 6) (.there (.there (.there (.there (.there (.here _ _)))))) rfl
  have p7 := hL.out.cell (b := X) (o := 7) (.there (.there (.there (.there (.there (.here _ _)))))) rfl
  have p8 := hL.out.cell (b := X) (o := 8) (.there (.there (.there (.there (.there (.here _ _)))))) rfl
  go_wp2_with fail
  refine e4.out.mono ?_
  rintro e w8 ⟨rfl, H8⟩
  clear e4 hL p0 p1 p2 p3 p4 p5 p6 p7 p8
  have hL := Lib.hid H8
  clear H8
  go_wp2_with fail
  have hH := hL
  clear hL
  obtain ⟨T, hT⟩ : ∃ T, strK B = T := ⟨_, rfl⟩
  have hcv : Hid (∀ W L L' a c, SL W L → Pull L (.own 5 1 (.slice a N c) N (bv B)) L' → (convert 23 9 (.slice a N c)).run Tryd.prog W = .ok (.string T) W) := Lib.hid fun W L L' a c HW hp => by rw [← hT]; exact run_strK hN'.out (own_rdB HW hp hN'.out) hBy.out
  clear hT
  have g25 := fun (V : World) (HL : SL V [.own 5 1 (.slice fa N fc) N (bv B), .own 5 1 (.slice ea N ec) N (bv B), .blk Y [Value.int .i64 g.fr, .int .i64 g.dst, .int .i64 g.kind, .int .u64 g.n, .int .i64 g.by', .int .u64 g.seq, .int .u64 g.ack, .int .u64 g.mask, .slice (some ⟨q, 0, none⟩) n oc] 25, .own 5 1 (.slice (some ⟨q, 0, none⟩) (n + 1) oc) (n + 1) (bv (g.data ++ [7])), .blk (X + 1) [Value.int .i64 h.fr, .int .i64 h.dst, .int .i64 h.kind, .int .u64 h.n, .int .i64 h.by', .int .u64 h.seq, .int .u64 h.ack, .int .u64 h.mask, .slice b m cb] 25, .blk X [Value.int .i64 g.fr, .int .i64 g.dst, .int .i64 g.kind, .int .u64 g.n, .int .i64 g.by', .int .u64 g.seq, .int .u64 g.ack, .int .u64 g.mask, .slice a n ca] 25, .old w no]) => txt_c g og'.out (some ⟨q, 0, none⟩) oc HL (by rw [hgl'.out]; exact hn) (fun V h => (hold2.out V [_, _] h).2.2.2)
  have g27 := fun (V : World) (HL : SL V [.own 5 1 (.slice fa N fc) N (bv B), .own 5 1 (.slice ea N ec) N (bv B), .blk Y [Value.int .i64 g.fr, .int .i64 g.dst, .int .i64 g.kind, .int .u64 g.n, .int .i64 g.by', .int .u64 g.seq, .int .u64 g.ack, .int .u64 g.mask, .slice (some ⟨q, 0, none⟩) n oc] 25, .own 5 1 (.slice (some ⟨q, 0, none⟩) (n + 1) oc) (n + 1) (bv (g.data ++ [7])), .blk (X + 1) [Value.int .i64 h.fr, .int .i64 h.dst, .int .i64 h.kind, .int .u64 h.n, .int .i64 h.by', .int .u64 h.seq, .int .u64 h.ack, .int .u64 h.mask, .slice b m cb] 25, .blk X [Value.int .i64 g.fr, .int .i64 g.dst, .int .i64 g.kind, .int .u64 g.n, .int .i64 g.by', .int .u64 g.seq, .int .u64 g.ack, .int .u64 g.mask, .slice a n ca] 25, .old w no]) => rtxt_c g og'.out a ca HL (by rw [hgl'.out]; exact hn)
  have g32 := fun (V : World) (HL : SL V [.own 5 1 (.slice fa N fc) N (bv B), .own 5 1 (.slice ea N ec) N (bv B), .blk Y [Value.int .i64 g.fr, .int .i64 g.dst, .int .i64 g.kind, .int .u64 g.n, .int .i64 g.by', .int .u64 g.seq, .int .u64 g.ack, .int .u64 g.mask, .slice (some ⟨q, 0, none⟩) n oc] 25, .own 5 1 (.slice (some ⟨q, 0, none⟩) (n + 1) oc) (n + 1) (bv (g.data ++ [7])), .blk (X + 1) [Value.int .i64 h.fr, .int .i64 h.dst, .int .i64 h.kind, .int .u64 h.n, .int .i64 h.by', .int .u64 h.seq, .int .u64 h.ack, .int .u64 h.mask, .slice b m cb] 25, .blk X [Value.int .i64 g.fr, .int .i64 g.dst, .int .i64 g.kind, .int .u64 g.n, .int .i64 g.by', .int .u64 g.seq, .int .u64 g.ack, .int .u64 g.mask, .slice a n ca] 25, .old w no]) => (name_c k V).mono fun e w' hz => (⟨hz.1, hz.2 ▸ HL⟩ : e = .returned (.string (nameS k)) ∧ SL w' [.own 5 1 (.slice fa N fc) N (bv B), .own 5 1 (.slice ea N ec) N (bv B), .blk Y [Value.int .i64 g.fr, .int .i64 g.dst, .int .i64 g.kind, .int .u64 g.n, .int .i64 g.by', .int .u64 g.seq, .int .u64 g.ack, .int .u64 g.mask, .slice (some ⟨q, 0, none⟩) n oc] 25, .own 5 1 (.slice (some ⟨q, 0, none⟩) (n + 1) oc) (n + 1) (bv (g.data ++ [7])), .blk (X + 1) [Value.int .i64 h.fr, .int .i64 h.dst, .int .i64 h.kind, .int .u64 h.n, .int .i64 h.by', .int .u64 h.seq, .int .u64 h.ack, .int .u64 h.mask, .slice b m cb] 25, .blk X [Value.int .i64 g.fr, .int .i64 g.dst, .int .i64 g.kind, .int .u64 g.n, .int .i64 g.by', .int .u64 g.seq, .int .u64 g.ack, .int .u64 g.mask, .slice a n ca] 25, .old w no])
  have g34 := fun (V : World) (HL : SL V [.own 5 1 (.slice fa N fc) N (bv B), .own 5 1 (.slice ea N ec) N (bv B), .blk Y [Value.int .i64 g.fr, .int .i64 g.dst, .int .i64 g.kind, .int .u64 g.n, .int .i64 g.by', .int .u64 g.seq, .int .u64 g.ack, .int .u64 g.mask, .slice (some ⟨q, 0, none⟩) n oc] 25, .own 5 1 (.slice (some ⟨q, 0, none⟩) (n + 1) oc) (n + 1) (bv (g.data ++ [7])), .blk (X + 1) [Value.int .i64 h.fr, .int .i64 h.dst, .int .i64 h.kind, .int .u64 h.n, .int .i64 h.by', .int .u64 h.seq, .int .u64 h.ack, .int .u64 h.mask, .slice b m cb] 25, .blk X [Value.int .i64 g.fr, .int .i64 g.dst, .int .i64 g.kind, .int .u64 g.n, .int .i64 g.by', .int .u64 g.seq, .int .u64 g.ack, .int .u64 g.mask, .slice a n ca] 25, .old w no]) => rname_any k HL
  obtain ⟨D, hD⟩ : ∃ D, decide (g = h) = D := ⟨_, rfl⟩
  have g40 := fun (V : World) (HL : SL V [.own 5 1 (.slice fa N fc) N (bv B), .own 5 1 (.slice ea N ec) N (bv B), .blk Y [Value.int .i64 g.fr, .int .i64 g.dst, .int .i64 g.kind, .int .u64 g.n, .int .i64 g.by', .int .u64 g.seq, .int .u64 g.ack, .int .u64 g.mask, .slice (some ⟨q, 0, none⟩) n oc] 25, .own 5 1 (.slice (some ⟨q, 0, none⟩) (n + 1) oc) (n + 1) (bv (g.data ++ [7])), .blk (X + 1) [Value.int .i64 h.fr, .int .i64 h.dst, .int .i64 h.kind, .int .u64 h.n, .int .i64 h.by', .int .u64 h.seq, .int .u64 h.ack, .int .u64 h.mask, .slice b m cb] 25, .blk X [Value.int .i64 g.fr, .int .i64 g.dst, .int .i64 g.kind, .int .u64 g.n, .int .i64 g.by', .int .u64 g.seq, .int .u64 g.ack, .int .u64 g.mask, .slice a n ca] 25, .old w no]) => csame_c g h a b ca cb HL (by rw [hgl'.out]; exact hn) og'.out.data oh'.out.data (fun V h => (hold2.out V [_, _] h).2.1) (fun V h => (hold2.out V [_, _] h).2.2.1) D hD
  have g43 := fun (V : World) (HL : SL V [.own 5 1 (.slice fa N fc) N (bv B), .own 5 1 (.slice ea N ec) N (bv B), .blk Y [Value.int .i64 g.fr, .int .i64 g.dst, .int .i64 g.kind, .int .u64 g.n, .int .i64 g.by', .int .u64 g.seq, .int .u64 g.ack, .int .u64 g.mask, .slice (some ⟨q, 0, none⟩) n oc] 25, .own 5 1 (.slice (some ⟨q, 0, none⟩) (n + 1) oc) (n + 1) (bv (g.data ++ [7])), .blk (X + 1) [Value.int .i64 h.fr, .int .i64 h.dst, .int .i64 h.kind, .int .u64 h.n, .int .i64 h.by', .int .u64 h.seq, .int .u64 h.ack, .int .u64 h.mask, .slice b m cb] 25, .blk X [Value.int .i64 g.fr, .int .i64 g.dst, .int .i64 g.kind, .int .u64 g.n, .int .i64 g.by', .int .u64 g.seq, .int .u64 g.ack, .int .u64 g.mask, .slice a n ca] 25, .old w no]) => rsame_c g h a b ca cb HL og'.out.data oh'.out.data (fun V h => (hold2.out V [_, _] h).2.1) (fun V h => (hold2.out V [_, _] h).2.2.1) D hD
  have g49 := fun (V : World) (HL : SL V [.own 5 1 (.slice fa N fc) N (bv B), .own 5 1 (.slice ea N ec) N (bv B), .blk Y [Value.int .i64 g.fr, .int .i64 g.dst, .int .i64 g.kind, .int .u64 g.n, .int .i64 g.by', .int .u64 g.seq, .int .u64 g.ack, .int .u64 g.mask, .slice (some ⟨q, 0, none⟩) n oc] 25, .own 5 1 (.slice (some ⟨q, 0, none⟩) (n + 1) oc) (n + 1) (bv (g.data ++ [7])), .blk (X + 1) [Value.int .i64 h.fr, .int .i64 h.dst, .int .i64 h.kind, .int .u64 h.n, .int .i64 h.by', .int .u64 h.seq, .int .u64 h.ack, .int .u64 h.mask, .slice b m cb] 25, .blk X [Value.int .i64 g.fr, .int .i64 g.dst, .int .i64 g.kind, .int .u64 g.n, .int .i64 g.by', .int .u64 g.seq, .int .u64 g.ack, .int .u64 g.mask, .slice a n ca] 25, .old w no]) => rsame_c g g (some ⟨q, 0, none⟩) a oc ca HL og'.out.data og'.out.data (fun V h => (hold2.out V [_, _] h).1) (fun V h => (hold2.out V [_, _] h).2.1) true (decide_eq_true rfl)
  rw [hgl'.out] at g25 g27 g49
  rw [hgl'.out, hhl'.out] at g40 g43
  obtain ⟨T1, hT1⟩ : ∃ T, lineS g = T := ⟨_, rfl⟩
  obtain ⟨T2, hT2⟩ : ∃ T, nameS k = T := ⟨_, rfl⟩
  rw [hT1] at g25 g27
  rw [hT2] at g32 g34
  unfold gmV at g25 g27 g40 g43 g49
  have f25 := Lib.hid g25
  have f27 := Lib.hid g27
  have f32 := Lib.hid g32
  have f34 := Lib.hid g34
  have f40 := Lib.hid g40
  have f43 := Lib.hid g43
  have f49 := Lib.hid g49
  clear g25 g27 g32 g34 g40 g43 g49 hT1 hT2 hD hold2
  have hsl : ∀ W, (Instr.slice 23 (.slice (some ⟨q, 0, none⟩) n oc) none (some (.int .i64 ((n : Int) + 1))) none).run Tryd.prog W = .ok (.slice (some ⟨q, 0, none⟩) (n + 1) oc) W := fun W => by
    have := slice_hB (some ⟨q, 0, none⟩) n oc (n + 1) hoc W
    rw [if_neg (by omega)] at this
    exact this
  have hni : (n : Int) < (n : Int) + 1 := by omega
  have hw1 : IntKind.i64.wrap ((n : Int) + 1) = (n : Int) + 1 := by unfold IntKind.wrap; simp [IntKind.bits, IntKind.signed]; omega
  rcases hME'.out with ⟨rfl, rfl⟩ | ⟨rfl, rfl⟩
  · skip
    refine wp_region_held_drew (S := (fun W => W.cell? ⟨Y, 0, none⟩ = some (Value.int .i64 g.fr) ∧ W.cell? ⟨Y, 1, none⟩ = some (.int .i64 g.dst) ∧ W.cell? ⟨Y, 2, none⟩ = some (.int .i64 g.kind) ∧ W.cell? ⟨Y, 3, none⟩ = some (.int .u64 g.n) ∧ W.cell? ⟨Y, 4, none⟩ = some (.int .i64 g.by') ∧ W.cell? ⟨Y, 5, none⟩ = some (.int .u64 g.seq) ∧ W.cell? ⟨Y, 6, none⟩ = some (.int .u64 g.ack) ∧ W.cell? ⟨Y, 7, none⟩ = some (.int .u64 g.mask) ∧ W.cell? ⟨Y, 8, none⟩ = some (.slice (some ⟨q, 0, none⟩) n oc) ∧ W.cell? ⟨X, 0, none⟩ = some (Value.int .i64 g.fr) ∧ W.cell? ⟨X, 1, none⟩ = some (.int .i64 g.dst) ∧ W.cell? ⟨X, 2, none⟩ = some (.int .i64 g.kind) ∧ W.cell? ⟨X, 3, none⟩ = some (.int .u64 g.n) ∧ W.cell? ⟨X, 4, none⟩ = some (.int .i64 g.by') ∧ W.cell? ⟨X, 5, none⟩ = some (.int .u64 g.seq) ∧ W.cell? ⟨X, 6, none⟩ = some (.int .u64 g.ack) ∧ W.cell? ⟨X, 7, none⟩ = some (.int .u64 g.mask) ∧ W.cell? ⟨X, 8, none⟩ = some (.slice a n ca) ∧ W.cell? ⟨(X + 1), 0, none⟩ = some (Value.int .i64 h.fr) ∧ W.cell? ⟨(X + 1), 1, none⟩ = some (.int .i64 h.dst) ∧ W.cell? ⟨(X + 1), 2, none⟩ = some (.int .i64 h.kind) ∧ W.cell? ⟨(X + 1), 3, none⟩ = some (.int .u64 h.n) ∧ W.cell? ⟨(X + 1), 4, none⟩ = some (.int .i64 h.by') ∧ W.cell? ⟨(X + 1), 5, none⟩ = some (.int .u64 h.seq) ∧ W.cell? ⟨(X + 1), 6, none⟩ = some (.int .u64 h.ack) ∧ W.cell? ⟨(X + 1), 7, none⟩ = some (.int .u64 h.mask) ∧ W.cell? ⟨(X + 1), 8, none⟩ = some (.slice b m cb) ∧ W.cell? ⟨q, n, none⟩ = some (.int .u8 7) ∧ (convert 23 9 (.slice ea N ec)).run Tryd.prog W = .ok (.string T) W ∧ (convert 23 9 (.slice fa N fc)).run Tryd.prog W = .ok (.string T) W)) (by as_aux_lemma => kernel_rfl) ?_ (fun hHeld => ?_)
    · have H := hH.out.drew
      exact ⟨H.cell (b := Y) (o := 0) (.there (.there (.here _ _))) rfl, H.cell (b := Y) (o := 1) (.there (.there (.here _ _))) rfl, H.cell (b := Y) (o := 2) (.there (.there (.here _ _))) rfl, H.cell (b := Y) (o := 3) (.there (.there (.here _ _))) rfl, H.cell (b := Y) (o := 4) (.there (.there (.here _ _))) rfl, H.cell (b := Y) (o := 5) (.there (.there (.here _ _))) rfl, H.cell (b := Y) (o := 6) (.there (.there (.here _ _))) rfl, H.cell (b := Y) (o := 7) (.there (.there (.here _ _))) rfl, H.cell (b := Y) (o := 8) (.there (.there (.here _ _))) rfl, H.cell (b := X) (o := 0) (.there (.there (.there (.there (.there (.here _ _)))))) rfl, H.cell (b := X) (o := 1) (.there (.there (.there (.there (.there (.here _ _)))))) rfl, H.cell (b := X) (o := 2) (.there (.there (.there (.there (.there (.here _ _)))))) rfl, H.cell (b := X) (o := 3) (.there (.there (.there (.there (.there (.here _ _)))))) rfl, H.cell (b := X) (o := 4) (.there (.there (.there (.there (.there (.here _ _)))))) rfl, H.cell (b := X) (o := 5) (.there (.there (.there (.there (.there (.here _ _)))))) rfl, H.cell (b := X) (o := 6) (.there (.there (.there (.there (.there (.here _ _)))))) rfl, H.cell (b := X) (o := 7) (.there (.there (.there (.there (.there (.here _ _)))))) rfl, H.cell (b := X) (o := 8) (.there (.there (.there (.there (.there (.here _ _)))))) rfl, H.cell (b := (X + 1)) (o := 0) (.there (.there (.there (.there (.here _ _))))) rfl, H.cell (b := (X + 1)) (o := 1) (.there (.there (.there (.there (.here _ _))))) rfl, H.cell (b := (X + 1)) (o := 2) (.there (.there (.there (.there (.here _ _))))) rfl, H.cell (b := (X + 1)) (o := 3) (.there (.there (.there (.there (.here _ _))))) rfl, H.cell (b := (X + 1)) (o := 4) (.there (.there (.there (.there (.here _ _))))) rfl, H.cell (b := (X + 1)) (o := 5) (.there (.there (.there (.there (.here _ _))))) rfl, H.cell (b := (X + 1)) (o := 6) (.there (.there (.there (.there (.here _ _))))) rfl, H.cell (b := (X + 1)) (o := 7) (.there (.there (.there (.there (.here _ _))))) rfl, H.cell (b := (X + 1)) (o := 8) (.there (.there (.there (.there (.here _ _))))) rfl, own7 H (.there (.there (.there (.here _ _)))) hgl'.out, hcv.out _ _ _ _ _ H (.there (.here _ _)), hcv.out _ _ _ _ _ H (.here _ _)⟩
    have H := hH.out.drew
    generalize World.drew w8 = w9 at *
    clear hH
    refine takeL (i := 0) rfl (by as_aux_lemma => kernel_rfl) (by as_aux_lemma => kernel_rfl) (by as_aux_lemma => kernel_rfl) (fun _ _ _ _ h => h) hHeld ?_ (Or.inl ⟨by rfl, ?_⟩) ?_
    rotate_left
    · intro W hW
      (try dsimp only at hW)
      first | (go_simp; done) | (go_simp; with_reducible rfl)
    ((try simp only [Act.put]); (try simp only [List.setIfInBounds_toArray]); (try simp only [List.set_cons_succ]); (try simp only [List.set_cons_zero]))
    refine takeL (i := 1) rfl (by as_aux_lemma => kernel_rfl) (by as_aux_lemma => kernel_rfl) (by as_aux_lemma => kernel_rfl) (fun _ _ _ _ h => h) hHeld ?_ (Or.inl ⟨by rfl, ?_⟩) ?_
    rotate_left
    · intro W hW
      (try dsimp only at hW)
      first | (go_simp; done) | (go_simp; with_reducible rfl)
    ((try simp only [Act.put]); (try simp only [List.setIfInBounds_toArray]); (try simp only [List.set_cons_succ]); (try simp only [List.set_cons_zero]))
    refine takeL (i := 2) rfl (by as_aux_lemma => kernel_rfl) (by as_aux_lemma => kernel_rfl) (by as_aux_lemma => kernel_rfl) (fun _ _ _ _ h => h) hHeld ?_ (Or.inl ⟨by rfl, ?_⟩) ?_
    rotate_left
    · intro W hW
      (try dsimp only at hW)
      first | (go_simp; done) | (go_simp; with_reducible rfl)
    ((try simp only [Act.put]); (try simp only [List.setIfInBounds_toArray]); (try simp only [List.set_cons_succ]); (try simp only [List.set_cons_zero]))
    refine takeL (i := 3) rfl (by as_aux_lemma => kernel_rfl) (by as_aux_lemma => kernel_rfl) (by as_aux_lemma => kernel_rfl) (fun _ _ _ _ h => h) hHeld ?_ (Or.inl ⟨by rfl, ?_⟩) ?_
    rotate_left
    · intro W hW
      (try dsimp only at hW)
      first | (go_simp; done) | (go_simp; with_reducible rfl)
    ((try simp only [Act.put]); (try simp only [List.setIfInBounds_toArray]); (try simp only [List.set_cons_succ]); (try simp only [List.set_cons_zero]))
    refine takeL (i := 4) rfl (by as_aux_lemma => kernel_rfl) (by as_aux_lemma => kernel_rfl) (by as_aux_lemma => kernel_rfl) (fun _ _ _ _ h => h) hHeld ?_ (Or.inl ⟨by rfl, ?_⟩) ?_
    rotate_left
    · intro W hW
      (try dsimp only at hW)
      first | (go_simp; done) | (go_simp; with_reducible rfl)
    ((try simp only [Act.put]); (try simp only [List.setIfInBounds_toArray]); (try simp only [List.set_cons_succ]); (try simp only [List.set_cons_zero]))
    refine takeL (i := 5) rfl (by as_aux_lemma => kernel_rfl) (by as_aux_lemma => kernel_rfl) (by as_aux_lemma => kernel_rfl) (fun _ _ _ _ h => h) hHeld ?_ (Or.inl ⟨by rfl, ?_⟩) ?_
    rotate_left
    · intro W hW
      (try dsimp only at hW)
      first | (go_simp; done) | (go_simp; with_reducible rfl)
    ((try simp only [Act.put]); (try simp only [List.setIfInBounds_toArray]); (try simp only [List.set_cons_succ]); (try simp only [List.set_cons_zero]))
    refine takeL (i := 6) rfl (by as_aux_lemma => kernel_rfl) (by as_aux_lemma => kernel_rfl) (by as_aux_lemma => kernel_rfl) (fun _ _ _ _ h => h) hHeld ?_ (Or.inl ⟨by rfl, ?_⟩) ?_
    rotate_left
    · intro W hW
      (try dsimp only at hW)
      first | (go_simp; done) | (go_simp; with_reducible rfl)
    ((try simp only [Act.put]); (try simp only [List.setIfInBounds_toArray]); (try simp only [List.set_cons_succ]); (try simp only [List.set_cons_zero]))
    refine takeL (i := 7) rfl (by as_aux_lemma => kernel_rfl) (by as_aux_lemma => kernel_rfl) (by as_aux_lemma => kernel_rfl) (fun _ _ _ _ h => h) hHeld ?_ (Or.inl ⟨by rfl, ?_⟩) ?_
    rotate_left
    · intro W hW
      (try dsimp only at hW)
      first | (go_simp; done) | (go_simp; with_reducible rfl)
    ((try simp only [Act.put]); (try simp only [List.setIfInBounds_toArray]); (try simp only [List.set_cons_succ]); (try simp only [List.set_cons_zero]))
    refine takeL (i := 8) rfl (by as_aux_lemma => kernel_rfl) (by as_aux_lemma => kernel_rfl) (by as_aux_lemma => kernel_rfl) (fun _ _ _ _ h => h) hHeld ?_ (Or.inl ⟨by rfl, ?_⟩) ?_
    rotate_left
    · intro W hW
      (try dsimp only at hW)
      first | (go_simp; done) | (go_simp; with_reducible rfl)
    ((try simp only [Act.put]); (try simp only [List.setIfInBounds_toArray]); (try simp only [List.set_cons_succ]); (try simp only [List.set_cons_zero]))
    refine takeL (i := 9) rfl (by as_aux_lemma => kernel_rfl) (by as_aux_lemma => kernel_rfl) (by as_aux_lemma => kernel_rfl) (fun _ _ _ _ h => h) hHeld ?_ (Or.inl ⟨by rfl, ?_⟩) ?_
    rotate_left
    · intro W hW
      (try dsimp only at hW)
      first | (go_simp; done) | (go_simp; with_reducible rfl)
    ((try simp only [Act.put]); (try simp only [List.setIfInBounds_toArray]); (try simp only [List.set_cons_succ]); (try simp only [List.set_cons_zero]))
    refine takeL (i := 10) rfl (by as_aux_lemma => kernel_rfl) (by as_aux_lemma => kernel_rfl) (by as_aux_lemma => kernel_rfl) (fun _ _ _ _ h => h) hHeld ?_ (Or.inl ⟨by rfl, ?_⟩) ?_
    rotate_left
    · intro W hW
      (try dsimp only at hW)
      first | (go_simp; done) | (go_simp; with_reducible rfl)
    ((try simp only [Act.put]); (try simp only [List.setIfInBounds_toArray]); (try simp only [List.set_cons_succ]); (try simp only [List.set_cons_zero]))
    refine takeL (i := 11) rfl (by as_aux_lemma => kernel_rfl) (by as_aux_lemma => kernel_rfl) (by as_aux_lemma => kernel_rfl) (fun _ _ _ _ h => h) hHeld ?_ (Or.inl ⟨by rfl, ?_⟩) ?_
    rotate_left
    · intro W hW
      (try dsimp only at hW)
      first | (go_simp; done) | (go_simp; with_reducible rfl)
    ((try simp only [Act.put]); (try simp only [List.setIfInBounds_toArray]); (try simp only [List.set_cons_succ]); (try simp only [List.set_cons_zero]))
    as_aux_lemma =>
      refine takeL (i := 12) rfl (by as_aux_lemma => kernel_rfl) (by as_aux_lemma => kernel_rfl) (by as_aux_lemma => kernel_rfl) (fun _ _ _ _ h => h) hHeld ?_ (Or.inl ⟨by rfl, ?_⟩) ?_
      rotate_left
      · intro W hW
        (try dsimp only at hW)
        first | (go_simp; done) | (go_simp; with_reducible rfl)
      ((try simp only [Act.put]); (try simp only [List.setIfInBounds_toArray]); (try simp only [List.set_cons_succ]); (try simp only [List.set_cons_zero]))
      refine takeL (i := 13) rfl (by as_aux_lemma => kernel_rfl) (by as_aux_lemma => kernel_rfl) (by as_aux_lemma => kernel_rfl) (fun _ _ _ _ h => h) hHeld ?_ (Or.inl ⟨by rfl, ?_⟩) ?_
      rotate_left
      · intro W hW
        (try dsimp only at hW)
        first | (go_simp; done) | (go_simp; with_reducible rfl)
      ((try simp only [Act.put]); (try simp only [List.setIfInBounds_toArray]); (try simp only [List.set_cons_succ]); (try simp only [List.set_cons_zero]))
      refine takeL (i := 14) rfl (by as_aux_lemma => kernel_rfl) (by as_aux_lemma => kernel_rfl) (by as_aux_lemma => kernel_rfl) (fun _ _ _ _ h => h) hHeld ?_ (Or.inl ⟨by rfl, ?_⟩) ?_
      rotate_left
      · intro W hW
        (try dsimp only at hW)
        first | (go_simp; done) | (go_simp; with_reducible rfl)
      ((try simp only [Act.put]); (try simp only [List.setIfInBounds_toArray]); (try simp only [List.set_cons_succ]); (try simp only [List.set_cons_zero]))
      refine takeL (i := 15) rfl (by as_aux_lemma => kernel_rfl) (by as_aux_lemma => kernel_rfl) (by as_aux_lemma => kernel_rfl) (fun _ _ _ _ h => h) hHeld ?_ (Or.inl ⟨by rfl, ?_⟩) ?_
      rotate_left
      · intro W hW
        (try dsimp only at hW)
        first | (go_simp; done) | (go_simp; with_reducible rfl)
      ((try simp only [Act.put]); (try simp only [List.setIfInBounds_toArray]); (try simp only [List.set_cons_succ]); (try simp only [List.set_cons_zero]))
      refine takeL (i := 16) rfl (by as_aux_lemma => kernel_rfl) (by as_aux_lemma => kernel_rfl) (by as_aux_lemma => kernel_rfl) (fun _ _ _ _ h => h) hHeld ?_ (Or.inl ⟨by rfl, ?_⟩) ?_
      rotate_left
      · intro W hW
        (try dsimp only at hW)
        first | (go_simp; done) | (go_simp; with_reducible rfl)
      ((try simp only [Act.put]); (try simp only [List.setIfInBounds_toArray]); (try simp only [List.set_cons_succ]); (try simp only [List.set_cons_zero]))
      refine takeL (i := 17) rfl (by as_aux_lemma => kernel_rfl) (by as_aux_lemma => kernel_rfl) (by as_aux_lemma => kernel_rfl) (fun _ _ _ _ h => h) hHeld ?_ (Or.inl ⟨by rfl, ?_⟩) ?_
      rotate_left
      · intro W hW
        (try dsimp only at hW)
        first | (go_simp; done) | (go_simp; with_reducible rfl)
      ((try simp only [Act.put]); (try simp only [List.setIfInBounds_toArray]); (try simp only [List.set_cons_succ]); (try simp only [List.set_cons_zero]))
      refine takeL (i := 18) rfl (by as_aux_lemma => kernel_rfl) (by as_aux_lemma => kernel_rfl) (by as_aux_lemma => kernel_rfl) (fun _ _ _ _ h => h) hHeld ?_ (Or.inl ⟨by rfl, ?_⟩) ?_
      rotate_left
      · intro W hW
        (try dsimp only at hW)
        first | (go_simp; done) | (go_simp; with_reducible rfl)
      ((try simp only [Act.put]); (try simp only [List.setIfInBounds_toArray]); (try simp only [List.set_cons_succ]); (try simp only [List.set_cons_zero]))
      refine takeL (i := 19) rfl (by as_aux_lemma => kernel_rfl) (by as_aux_lemma => kernel_rfl) (by as_aux_lemma => kernel_rfl) (fun _ _ _ _ h => h) hHeld undef (Or.inr ⟨by rfl, rfl⟩) ?_
      ((try simp only [Act.put]); (try simp only [List.setIfInBounds_toArray]); (try simp only [List.set_cons_succ]); (try simp only [List.set_cons_zero]))
      refine takeL (i := 20) rfl (by as_aux_lemma => kernel_rfl) (by as_aux_lemma => kernel_rfl) (by as_aux_lemma => kernel_rfl) (fun _ _ _ _ h => h) hHeld undef (Or.inr ⟨by rfl, rfl⟩) ?_
      ((try simp only [Act.put]); (try simp only [List.setIfInBounds_toArray]); (try simp only [List.set_cons_succ]); (try simp only [List.set_cons_zero]))
      refine takeL (i := 21) rfl (by as_aux_lemma => kernel_rfl) (by as_aux_lemma => kernel_rfl) (by as_aux_lemma => kernel_rfl) (fun _ _ _ _ h => h) hHeld ?_ (Or.inl ⟨by rfl, ?_⟩) ?_
      rotate_left
      · intro W hW
        (try dsimp only at hW)
        first | (go_simp; done) | (go_simp; with_reducible rfl)
      ((try simp only [Act.put]); (try simp only [List.setIfInBounds_toArray]); (try simp only [List.set_cons_succ]); (try simp only [List.set_cons_zero]))
      refine takeL (i := 22) rfl (by as_aux_lemma => kernel_rfl) (by as_aux_lemma => kernel_rfl) (by as_aux_lemma => kernel_rfl) (fun _ _ _ _ h => h) hHeld ?_ (Or.inl ⟨by rfl, ?_⟩) ?_
      rotate_left
      · intro W hW
        (try dsimp only at hW)
        first | (go_simp; done) | (go_simp; with_reducible rfl)
      ((try simp only [Act.put]); (try simp only [List.setIfInBounds_toArray]); (try simp only [List.set_cons_succ]); (try simp only [List.set_cons_zero]))
      refine takeL (i := 23) rfl (by as_aux_lemma => kernel_rfl) (by as_aux_lemma => kernel_rfl) (by as_aux_lemma => kernel_rfl) (fun _ _ _ _ h => h) hHeld ?_ (Or.inl ⟨by rfl, ?_⟩) ?_
      rotate_left
      · intro W hW
        (try dsimp only at hW)
        first | (go_simp; done) | (go_simp; with_reducible rfl)
      ((try simp only [Act.put]); (try simp only [List.setIfInBounds_toArray]); (try simp only [List.set_cons_succ]); (try simp only [List.set_cons_zero]))
      as_aux_lemma =>
        refine takeL (i := 24) rfl (by as_aux_lemma => kernel_rfl) (by as_aux_lemma => kernel_rfl) (by as_aux_lemma => kernel_rfl) (fun _ _ _ _ h => h) hHeld ?_ (Or.inl ⟨by rfl, ?_⟩) ?_
        rotate_left
        · intro W hW
          (try dsimp only at hW)
          first | (go_simp; done) | (go_simp; with_reducible rfl)
        ((try simp only [Act.put]); (try simp only [List.setIfInBounds_toArray]); (try simp only [List.set_cons_succ]); (try simp only [List.set_cons_zero]))
        refine takeL (i := 26) rfl (by as_aux_lemma => kernel_rfl) (by as_aux_lemma => kernel_rfl) (by as_aux_lemma => kernel_rfl) (fun _ _ _ _ h => h) hHeld ?_ (Or.inl ⟨by rfl, ?_⟩) ?_
        rotate_left
        · intro W hW
          (try dsimp only at hW)
          first | (go_simp; done) | (go_simp; with_reducible rfl)
        ((try simp only [Act.put]); (try simp only [List.setIfInBounds_toArray]); (try simp only [List.set_cons_succ]); (try simp only [List.set_cons_zero]))
        refine callL (i := 25) rfl (by as_aux_lemma => kernel_rfl) (fun K hK => ?_)
        rw [if_pos (by rfl)]
        go_simp
        refine (f25.out _ H).mono ?_
        rintro e w10 ⟨rfl, H10⟩
        have H' := H10
        clear H hHeld
        clear H10
        have H := H'
        clear H'
        refine hK.out _ _ ?_ (fun hHeld => ?_)
        · exact ⟨H.cell (b := Y) (o := 0) (.there (.there (.here _ _))) rfl, H.cell (b := Y) (o := 1) (.there (.there (.here _ _))) rfl, H.cell (b := Y) (o := 2) (.there (.there (.here _ _))) rfl, H.cell (b := Y) (o := 3) (.there (.there (.here _ _))) rfl, H.cell (b := Y) (o := 4) (.there (.there (.here _ _))) rfl, H.cell (b := Y) (o := 5) (.there (.there (.here _ _))) rfl, H.cell (b := Y) (o := 6) (.there (.there (.here _ _))) rfl, H.cell (b := Y) (o := 7) (.there (.there (.here _ _))) rfl, H.cell (b := Y) (o := 8) (.there (.there (.here _ _))) rfl, H.cell (b := X) (o := 0) (.there (.there (.there (.there (.there (.here _ _)))))) rfl, H.cell (b := X) (o := 1) (.there (.there (.there (.there (.there (.here _ _)))))) rfl, H.cell (b := X) (o := 2) (.there (.there (.there (.there (.there (.here _ _)))))) rfl, H.cell (b := X) (o := 3) (.there (.there (.there (.there (.there (.here _ _)))))) rfl, H.cell (b := X) (o := 4) (.there (.there (.there (.there (.there (.here _ _)))))) rfl, H.cell (b := X) (o := 5) (.there (.there (.there (.there (.there (.here _ _)))))) rfl, H.cell (b := X) (o := 6) (.there (.there (.there (.there (.there (.here _ _)))))) rfl, H.cell (b := X) (o := 7) (.there (.there (.there (.there (.there (.here _ _)))))) rfl, H.cell (b := X) (o := 8) (.there (.there (.there (.there (.there (.here _ _)))))) rfl, H.cell (b := (X + 1)) (o := 0) (.there (.there (.there (.there (.here _ _))))) rfl, H.cell (b := (X + 1)) (o := 1) (.there (.there (.there (.there (.here _ _))))) rfl, H.cell (b := (X + 1)) (o := 2) (.there (.there (.there (.there (.here _ _))))) rfl, H.cell (b := (X + 1)) (o := 3) (.there (.there (.there (.there (.here _ _))))) rfl, H.cell (b := (X + 1)) (o := 4) (.there (.there (.there (.there (.here _ _))))) rfl, H.cell (b := (X + 1)) (o := 5) (.there (.there (.there (.there (.here _ _))))) rfl, H.cell (b := (X + 1)) (o := 6) (.there (.there (.there (.there (.here _ _))))) rfl, H.cell (b := (X + 1)) (o := 7) (.there (.there (.there (.there (.here _ _))))) rfl, H.cell (b := (X + 1)) (o := 8) (.there (.there (.there (.there (.here _ _))))) rfl, own7 H (.there (.there (.there (.here _ _)))) hgl'.out, hcv.out _ _ _ _ _ H (.there (.here _ _)), hcv.out _ _ _ _ _ H (.here _ _)⟩
        clear hK K
        ((try simp only [Act.put]); (try simp only [List.setIfInBounds_toArray]); (try simp only [List.set_cons_succ]); (try simp only [List.set_cons_zero]))
        refine callL (i := 27) rfl (by as_aux_lemma => kernel_rfl) (fun K hK => ?_)
        rw [if_pos (by rfl)]
        go_simp
        refine (f27.out _ H).mono ?_
        rintro e w11 ⟨rfl, H11⟩
        have H' := H11
        clear H hHeld
        clear H11
        have H := H'
        clear H'
        refine hK.out _ _ ?_ (fun hHeld => ?_)
        · exact ⟨H.cell (b := Y) (o := 0) (.there (.there (.here _ _))) rfl, H.cell (b := Y) (o := 1) (.there (.there (.here _ _))) rfl, H.cell (b := Y) (o := 2) (.there (.there (.here _ _))) rfl, H.cell (b := Y) (o := 3) (.there (.there (.here _ _))) rfl, H.cell (b := Y) (o := 4) (.there (.there (.here _ _))) rfl, H.cell (b := Y) (o := 5) (.there (.there (.here _ _))) rfl, H.cell (b := Y) (o := 6) (.there (.there (.here _ _))) rfl, H.cell (b := Y) (o := 7) (.there (.there (.here _ _))) rfl, H.cell (b := Y) (o := 8) (.there (.there (.here _ _))) rfl, H.cell (b := X) (o := 0) (.there (.there (.there (.there (.there (.here _ _)))))) rfl, H.cell (b := X) (o := 1) (.there (.there (.there (.there (.there (.here _ _)))))) rfl, H.cell (b := X) (o := 2) (.there (.there (.there (.there (.there (.here _ _)))))) rfl, H.cell (b := X) (o := 3) (.there (.there (.there (.there (.there (.here _ _)))))) rfl, H.cell (b := X) (o := 4) (.there (.there (.there (.there (.there (.here _ _)))))) rfl, H.cell (b := X) (o := 5) (.there (.there (.there (.there (.there (.here _ _)))))) rfl, H.cell (b := X) (o := 6) (.there (.there (.there (.there (.there (.here _ _)))))) rfl, H.cell (b := X) (o := 7) (.there (.there (.there (.there (.there (.here _ _)))))) rfl, H.cell (b := X) (o := 8) (.there (.there (.there (.there (.there (.here _ _)))))) rfl, H.cell (b := (X + 1)) (o := 0) (.there (.there (.there (.there (.here _ _))))) rfl, H.cell (b := (X + 1)) (o := 1) (.there (.there (.there (.there (.here _ _))))) rfl, H.cell (b := (X + 1)) (o := 2) (.there (.there (.there (.there (.here _ _))))) rfl, H.cell (b := (X + 1)) (o := 3) (.there (.there (.there (.there (.here _ _))))) rfl, H.cell (b := (X + 1)) (o := 4) (.there (.there (.there (.there (.here _ _))))) rfl, H.cell (b := (X + 1)) (o := 5) (.there (.there (.there (.there (.here _ _))))) rfl, H.cell (b := (X + 1)) (o := 6) (.there (.there (.there (.there (.here _ _))))) rfl, H.cell (b := (X + 1)) (o := 7) (.there (.there (.there (.there (.here _ _))))) rfl, H.cell (b := (X + 1)) (o := 8) (.there (.there (.there (.there (.here _ _))))) rfl, own7 H (.there (.there (.there (.here _ _)))) hgl'.out, hcv.out _ _ _ _ _ H (.there (.here _ _)), hcv.out _ _ _ _ _ H (.here _ _)⟩
        clear hK K
        ((try simp only [Act.put]); (try simp only [List.setIfInBounds_toArray]); (try simp only [List.set_cons_succ]); (try simp only [List.set_cons_zero]))
        refine takeL (i := 28) rfl (by as_aux_lemma => kernel_rfl) (by as_aux_lemma => kernel_rfl) (by as_aux_lemma => kernel_rfl) (fun _ _ _ _ h => h) hHeld ?_ (Or.inl ⟨by rfl, ?_⟩) ?_
        rotate_left
        · intro W hW
          (try dsimp only at hW)
          first | (go_simp; done) | (go_simp; with_reducible rfl)
        ((try simp only [Act.put]); (try simp only [List.setIfInBounds_toArray]); (try simp only [List.set_cons_succ]); (try simp only [List.set_cons_zero]))
        refine takeL (i := 29) rfl (by as_aux_lemma => kernel_rfl) (by as_aux_lemma => kernel_rfl) (by as_aux_lemma => kernel_rfl) (fun _ _ _ _ h => h) hHeld ?_ (Or.inl ⟨by rfl, ?_⟩) ?_
        rotate_left
        · intro W hW
          (try dsimp only at hW)
          first | (go_simp; done) | (go_simp; with_reducible rfl)
        ((try simp only [Act.put]); (try simp only [List.setIfInBounds_toArray]); (try simp only [List.set_cons_succ]); (try simp only [List.set_cons_zero]))
        refine takeL (i := 30) rfl (by as_aux_lemma => kernel_rfl) (by as_aux_lemma => kernel_rfl) (by as_aux_lemma => kernel_rfl) (fun _ _ _ _ h => h) hHeld ?_ (Or.inl ⟨by rfl, ?_⟩) ?_
        rotate_left
        · intro W hW
          (try dsimp only at hW)
          first | (go_simp; done) | (go_simp; with_reducible rfl)
        ((try simp only [Act.put]); (try simp only [List.setIfInBounds_toArray]); (try simp only [List.set_cons_succ]); (try simp only [List.set_cons_zero]))
        refine takeL (i := 31) rfl (by as_aux_lemma => kernel_rfl) (by as_aux_lemma => kernel_rfl) (by as_aux_lemma => kernel_rfl) (fun _ _ _ _ h => h) hHeld ?_ (Or.inl ⟨by rfl, ?_⟩) ?_
        rotate_left
        · intro W hW
          (try dsimp only at hW)
          first | (go_simp; done) | (go_simp; with_reducible rfl)
        ((try simp only [Act.put]); (try simp only [List.setIfInBounds_toArray]); (try simp only [List.set_cons_succ]); (try simp only [List.set_cons_zero]))
        refine takeL (i := 33) rfl (by as_aux_lemma => kernel_rfl) (by as_aux_lemma => kernel_rfl) (by as_aux_lemma => kernel_rfl) (fun _ _ _ _ h => h) hHeld ?_ (Or.inl ⟨by rfl, ?_⟩) ?_
        rotate_left
        · intro W hW
          (try dsimp only at hW)
          first | (go_simp; done) | (go_simp; with_reducible rfl)
        ((try simp only [Act.put]); (try simp only [List.setIfInBounds_toArray]); (try simp only [List.set_cons_succ]); (try simp only [List.set_cons_zero]))
        refine callL (i := 32) rfl (by as_aux_lemma => kernel_rfl) (fun K hK => ?_)
        rw [if_pos (by rfl)]
        go_simp
        refine (f32.out _ H).mono ?_
        rintro e w12 ⟨rfl, H12⟩
        have H' := H12
        clear H hHeld
        clear H12
        have H := H'
        clear H'
        refine hK.out _ _ ?_ (fun hHeld => ?_)
        · exact ⟨H.cell (b := Y) (o := 0) (.there (.there (.here _ _))) rfl, H.cell (b := Y) (o := 1) (.there (.there (.here _ _))) rfl, H.cell (b := Y) (o := 2) (.there (.there (.here _ _))) rfl, H.cell (b := Y) (o := 3) (.there (.there (.here _ _))) rfl, H.cell (b := Y) (o := 4) (.there (.there (.here _ _))) rfl, H.cell (b := Y) (o := 5) (.there (.there (.here _ _))) rfl, H.cell (b := Y) (o := 6) (.there (.there (.here _ _))) rfl, H.cell (b := Y) (o := 7) (.there (.there (.here _ _))) rfl, H.cell (b := Y) (o := 8) (.there (.there (.here _ _))) rfl, H.cell (b := X) (o := 0) (.there (.there (.there (.there (.there (.here _ _)))))) rfl, H.cell (b := X) (o := 1) (.there (.there (.there (.there (.there (.here _ _)))))) rfl, H.cell (b := X) (o := 2) (.there (.there (.there (.there (.there (.here _ _)))))) rfl, H.cell (b := X) (o := 3) (.there (.there (.there (.there (.there (.here _ _)))))) rfl, H.cell (b := X) (o := 4) (.there (.there (.there (.there (.there (.here _ _)))))) rfl, H.cell (b := X) (o := 5) (.there (.there (.there (.there (.there (.here _ _)))))) rfl, H.cell (b := X) (o := 6) (.there (.there (.there (.there (.there (.here _ _)))))) rfl, H.cell (b := X) (o := 7) (.there (.there (.there (.there (.there (.here _ _)))))) rfl, H.cell (b := X) (o := 8) (.there (.there (.there (.there (.there (.here _ _)))))) rfl, H.cell (b := (X + 1)) (o := 0) (.there (.there (.there (.there (.here _ _))))) rfl, H.cell (b := (X + 1)) (o := 1) (.there (.there (.there (.there (.here _ _))))) rfl, H.cell (b := (X + 1)) (o := 2) (.there (.there (.there (.there (.here _ _))))) rfl, H.cell (b := (X + 1)) (o := 3) (.there (.there (.there (.there (.here _ _))))) rfl, H.cell (b := (X + 1)) (o := 4) (.there (.there (.there (.there (.here _ _))))) rfl, H.cell (b := (X + 1)) (o := 5) (.there (.there (.there (.there (.here _ _))))) rfl, H.cell (b := (X + 1)) (o := 6) (.there (.there (.there (.there (.here _ _))))) rfl, H.cell (b := (X + 1)) (o := 7) (.there (.there (.there (.there (.here _ _))))) rfl, H.cell (b := (X + 1)) (o := 8) (.there (.there (.there (.there (.here _ _))))) rfl, own7 H (.there (.there (.there (.here _ _)))) hgl'.out, hcv.out _ _ _ _ _ H (.there (.here _ _)), hcv.out _ _ _ _ _ H (.here _ _)⟩
        clear hK K
        ((try simp only [Act.put]); (try simp only [List.setIfInBounds_toArray]); (try simp only [List.set_cons_succ]); (try simp only [List.set_cons_zero]))
        refine callL (i := 34) rfl (by as_aux_lemma => kernel_rfl) (fun K hK => ?_)
        rw [if_pos (by rfl)]
        go_simp
        refine (f34.out _ H).mono ?_
        rintro e w13 ⟨rfl, H13⟩
        have H' := H13
        clear H hHeld
        clear H13
        have H := H'
        clear H'
        refine hK.out _ _ ?_ (fun hHeld => ?_)
        · exact ⟨H.cell (b := Y) (o := 0) (.there (.there (.here _ _))) rfl, H.cell (b := Y) (o := 1) (.there (.there (.here _ _))) rfl, H.cell (b := Y) (o := 2) (.there (.there (.here _ _))) rfl, H.cell (b := Y) (o := 3) (.there (.there (.here _ _))) rfl, H.cell (b := Y) (o := 4) (.there (.there (.here _ _))) rfl, H.cell (b := Y) (o := 5) (.there (.there (.here _ _))) rfl, H.cell (b := Y) (o := 6) (.there (.there (.here _ _))) rfl, H.cell (b := Y) (o := 7) (.there (.there (.here _ _))) rfl, H.cell (b := Y) (o := 8) (.there (.there (.here _ _))) rfl, H.cell (b := X) (o := 0) (.there (.there (.there (.there (.there (.here _ _)))))) rfl, H.cell (b := X) (o := 1) (.there (.there (.there (.there (.there (.here _ _)))))) rfl, H.cell (b := X) (o := 2) (.there (.there (.there (.there (.there (.here _ _)))))) rfl, H.cell (b := X) (o := 3) (.there (.there (.there (.there (.there (.here _ _)))))) rfl, H.cell (b := X) (o := 4) (.there (.there (.there (.there (.there (.here _ _)))))) rfl, H.cell (b := X) (o := 5) (.there (.there (.there (.there (.there (.here _ _)))))) rfl, H.cell (b := X) (o := 6) (.there (.there (.there (.there (.there (.here _ _)))))) rfl, H.cell (b := X) (o := 7) (.there (.there (.there (.there (.there (.here _ _)))))) rfl, H.cell (b := X) (o := 8) (.there (.there (.there (.there (.there (.here _ _)))))) rfl, H.cell (b := (X + 1)) (o := 0) (.there (.there (.there (.there (.here _ _))))) rfl, H.cell (b := (X + 1)) (o := 1) (.there (.there (.there (.there (.here _ _))))) rfl, H.cell (b := (X + 1)) (o := 2) (.there (.there (.there (.there (.here _ _))))) rfl, H.cell (b := (X + 1)) (o := 3) (.there (.there (.there (.there (.here _ _))))) rfl, H.cell (b := (X + 1)) (o := 4) (.there (.there (.there (.there (.here _ _))))) rfl, H.cell (b := (X + 1)) (o := 5) (.there (.there (.there (.there (.here _ _))))) rfl, H.cell (b := (X + 1)) (o := 6) (.there (.there (.there (.there (.here _ _))))) rfl, H.cell (b := (X + 1)) (o := 7) (.there (.there (.there (.there (.here _ _))))) rfl, H.cell (b := (X + 1)) (o := 8) (.there (.there (.there (.there (.here _ _))))) rfl, own7 H (.there (.there (.there (.here _ _)))) hgl'.out, hcv.out _ _ _ _ _ H (.there (.here _ _)), hcv.out _ _ _ _ _ H (.here _ _)⟩
        clear hK K
        ((try simp only [Act.put]); (try simp only [List.setIfInBounds_toArray]); (try simp only [List.set_cons_succ]); (try simp only [List.set_cons_zero]))
        refine takeL (i := 35) rfl (by as_aux_lemma => kernel_rfl) (by as_aux_lemma => kernel_rfl) (by as_aux_lemma => kernel_rfl) (fun _ _ _ _ h => h) hHeld ?_ (Or.inl ⟨by rfl, ?_⟩) ?_
        rotate_left
        · intro W hW
          (try dsimp only at hW)
          first | (go_simp; done) | (go_simp; with_reducible rfl)
        ((try simp only [Act.put]); (try simp only [List.setIfInBounds_toArray]); (try simp only [List.set_cons_succ]); (try simp only [List.set_cons_zero]))
        as_aux_lemma =>
          refine takeL (i := 36) rfl (by as_aux_lemma => kernel_rfl) (by as_aux_lemma => kernel_rfl) (by as_aux_lemma => kernel_rfl) (fun _ _ _ _ h => h) hHeld ?_ (Or.inl ⟨by rfl, ?_⟩) ?_
          rotate_left
          · intro W hW
            (try dsimp only at hW)
            first | (go_simp; done) | (go_simp; with_reducible rfl)
          ((try simp only [Act.put]); (try simp only [List.setIfInBounds_toArray]); (try simp only [List.set_cons_succ]); (try simp only [List.set_cons_zero]))
          refine takeL (i := 37) rfl (by as_aux_lemma => kernel_rfl) (by as_aux_lemma => kernel_rfl) (by as_aux_lemma => kernel_rfl) (fun _ _ _ _ h => h) hHeld ?_ (Or.inl ⟨by rfl, ?_⟩) ?_
          rotate_left
          · intro W hW
            (try dsimp only at hW)
            first | (go_simp; done) | (go_simp; with_reducible rfl)
          ((try simp only [Act.put]); (try simp only [List.setIfInBounds_toArray]); (try simp only [List.set_cons_succ]); (try simp only [List.set_cons_zero]))
          refine takeL (i := 38) rfl (by as_aux_lemma => kernel_rfl) (by as_aux_lemma => kernel_rfl) (by as_aux_lemma => kernel_rfl) (fun _ _ _ _ h => h) hHeld ?_ (Or.inl ⟨by rfl, ?_⟩) ?_
          rotate_left
          · intro W hW
            (try dsimp only at hW)
            first | (go_simp; done) | (go_simp; with_reducible rfl)
          ((try simp only [Act.put]); (try simp only [List.setIfInBounds_toArray]); (try simp only [List.set_cons_succ]); (try simp only [List.set_cons_zero]))
          refine takeL (i := 39) rfl (by as_aux_lemma => kernel_rfl) (by as_aux_lemma => kernel_rfl) (by as_aux_lemma => kernel_rfl) (fun _ _ _ _ h => h) hHeld ?_ (Or.inl ⟨by rfl, ?_⟩) ?_
          rotate_left
          · intro W hW
            (try dsimp only at hW)
            first | (go_simp; done) | (go_simp; with_reducible rfl)
          ((try simp only [Act.put]); (try simp only [List.setIfInBounds_toArray]); (try simp only [List.set_cons_succ]); (try simp only [List.set_cons_zero]))
          refine takeL (i := 41) rfl (by as_aux_lemma => kernel_rfl) (by as_aux_lemma => kernel_rfl) (by as_aux_lemma => kernel_rfl) (fun _ _ _ _ h => h) hHeld ?_ (Or.inl ⟨by rfl, ?_⟩) ?_
          rotate_left
          · intro W hW
            (try dsimp only at hW)
            first | (go_simp; done) | (go_simp; with_reducible rfl)
          ((try simp only [Act.put]); (try simp only [List.setIfInBounds_toArray]); (try simp only [List.set_cons_succ]); (try simp only [List.set_cons_zero]))
          refine takeL (i := 42) rfl (by as_aux_lemma => kernel_rfl) (by as_aux_lemma => kernel_rfl) (by as_aux_lemma => kernel_rfl) (fun _ _ _ _ h => h) hHeld ?_ (Or.inl ⟨by rfl, ?_⟩) ?_
          rotate_left
          · intro W hW
            (try dsimp only at hW)
            first | (go_simp; done) | (go_simp; with_reducible rfl)
          ((try simp only [Act.put]); (try simp only [List.setIfInBounds_toArray]); (try simp only [List.set_cons_succ]); (try simp only [List.set_cons_zero]))
          refine callL (i := 40) rfl (by as_aux_lemma => kernel_rfl) (fun K hK => ?_)
          rw [if_pos (by rfl)]
          go_simp
          refine (f40.out _ H).mono ?_
          rintro e w14 ⟨rfl, H14⟩
          have H' := H14
          clear H hHeld
          clear H14
          have H := H'
          clear H'
          refine hK.out _ _ ?_ (fun hHeld => ?_)
          · exact ⟨H.cell (b := Y) (o := 0) (.there (.there (.here _ _))) rfl, H.cell (b := Y) (o := 1) (.there (.there (.here _ _))) rfl, H.cell (b := Y) (o := 2) (.there (.there (.here _ _))) rfl, H.cell (b := Y) (o := 3) (.there (.there (.here _ _))) rfl, H.cell (b := Y) (o := 4) (.there (.there (.here _ _))) rfl, H.cell (b := Y) (o := 5) (.there (.there (.here _ _))) rfl, H.cell (b := Y) (o := 6) (.there (.there (.here _ _))) rfl, H.cell (b := Y) (o := 7) (.there (.there (.here _ _))) rfl, H.cell (b := Y) (o := 8) (.there (.there (.here _ _))) rfl, H.cell (b := X) (o := 0) (.there (.there (.there (.there (.there (.here _ _)))))) rfl, H.cell (b := X) (o := 1) (.there (.there (.there (.there (.there (.here _ _)))))) rfl, H.cell (b := X) (o := 2) (.there (.there (.there (.there (.there (.here _ _)))))) rfl, H.cell (b := X) (o := 3) (.there (.there (.there (.there (.there (.here _ _)))))) rfl, H.cell (b := X) (o := 4) (.there (.there (.there (.there (.there (.here _ _)))))) rfl, H.cell (b := X) (o := 5) (.there (.there (.there (.there (.there (.here _ _)))))) rfl, H.cell (b := X) (o := 6) (.there (.there (.there (.there (.there (.here _ _)))))) rfl, H.cell (b := X) (o := 7) (.there (.there (.there (.there (.there (.here _ _)))))) rfl, H.cell (b := X) (o := 8) (.there (.there (.there (.there (.there (.here _ _)))))) rfl, H.cell (b := (X + 1)) (o := 0) (.there (.there (.there (.there (.here _ _))))) rfl, H.cell (b := (X + 1)) (o := 1) (.there (.there (.there (.there (.here _ _))))) rfl, H.cell (b := (X + 1)) (o := 2) (.there (.there (.there (.there (.here _ _))))) rfl, H.cell (b := (X + 1)) (o := 3) (.there (.there (.there (.there (.here _ _))))) rfl, H.cell (b := (X + 1)) (o := 4) (.there (.there (.there (.there (.here _ _))))) rfl, H.cell (b := (X + 1)) (o := 5) (.there (.there (.there (.there (.here _ _))))) rfl, H.cell (b := (X + 1)) (o := 6) (.there (.there (.there (.there (.here _ _))))) rfl, H.cell (b := (X + 1)) (o := 7) (.there (.there (.there (.there (.here _ _))))) rfl, H.cell (b := (X + 1)) (o := 8) (.there (.there (.there (.there (.here _ _))))) rfl, own7 H (.there (.there (.there (.here _ _)))) hgl'.out, hcv.out _ _ _ _ _ H (.there (.here _ _)), hcv.out _ _ _ _ _ H (.here _ _)⟩
          clear hK K
          ((try simp only [Act.put]); (try simp only [List.setIfInBounds_toArray]); (try simp only [List.set_cons_succ]); (try simp only [List.set_cons_zero]))
          refine callL (i := 43) rfl (by as_aux_lemma => kernel_rfl) (fun K hK => ?_)
          rw [if_pos (by rfl)]
          go_simp
          refine (f43.out _ H).mono ?_
          rintro e w15 ⟨rfl, H15⟩
          have H' := H15
          clear H hHeld
          clear H15
          have H := H'
          clear H'
          refine hK.out _ _ ?_ (fun hHeld => ?_)
          · exact ⟨H.cell (b := Y) (o := 0) (.there (.there (.here _ _))) rfl, H.cell (b := Y) (o := 1) (.there (.there (.here _ _))) rfl, H.cell (b := Y) (o := 2) (.there (.there (.here _ _))) rfl, H.cell (b := Y) (o := 3) (.there (.there (.here _ _))) rfl, H.cell (b := Y) (o := 4) (.there (.there (.here _ _))) rfl, H.cell (b := Y) (o := 5) (.there (.there (.here _ _))) rfl, H.cell (b := Y) (o := 6) (.there (.there (.here _ _))) rfl, H.cell (b := Y) (o := 7) (.there (.there (.here _ _))) rfl, H.cell (b := Y) (o := 8) (.there (.there (.here _ _))) rfl, H.cell (b := X) (o := 0) (.there (.there (.there (.there (.there (.here _ _)))))) rfl, H.cell (b := X) (o := 1) (.there (.there (.there (.there (.there (.here _ _)))))) rfl, H.cell (b := X) (o := 2) (.there (.there (.there (.there (.there (.here _ _)))))) rfl, H.cell (b := X) (o := 3) (.there (.there (.there (.there (.there (.here _ _)))))) rfl, H.cell (b := X) (o := 4) (.there (.there (.there (.there (.there (.here _ _)))))) rfl, H.cell (b := X) (o := 5) (.there (.there (.there (.there (.there (.here _ _)))))) rfl, H.cell (b := X) (o := 6) (.there (.there (.there (.there (.there (.here _ _)))))) rfl, H.cell (b := X) (o := 7) (.there (.there (.there (.there (.there (.here _ _)))))) rfl, H.cell (b := X) (o := 8) (.there (.there (.there (.there (.there (.here _ _)))))) rfl, H.cell (b := (X + 1)) (o := 0) (.there (.there (.there (.there (.here _ _))))) rfl, H.cell (b := (X + 1)) (o := 1) (.there (.there (.there (.there (.here _ _))))) rfl, H.cell (b := (X + 1)) (o := 2) (.there (.there (.there (.there (.here _ _))))) rfl, H.cell (b := (X + 1)) (o := 3) (.there (.there (.there (.there (.here _ _))))) rfl, H.cell (b := (X + 1)) (o := 4) (.there (.there (.there (.there (.here _ _))))) rfl, H.cell (b := (X + 1)) (o := 5) (.there (.there (.there (.there (.here _ _))))) rfl, H.cell (b := (X + 1)) (o := 6) (.there (.there (.there (.there (.here _ _))))) rfl, H.cell (b := (X + 1)) (o := 7) (.there (.there (.there (.there (.here _ _))))) rfl, H.cell (b := (X + 1)) (o := 8) (.there (.there (.there (.there (.here _ _))))) rfl, own7 H (.there (.there (.there (.here _ _)))) hgl'.out, hcv.out _ _ _ _ _ H (.there (.here _ _)), hcv.out _ _ _ _ _ H (.here _ _)⟩
          clear hK K
          ((try simp only [Act.put]); (try simp only [List.setIfInBounds_toArray]); (try simp only [List.set_cons_succ]); (try simp only [List.set_cons_zero]))
          refine takeL (i := 44) rfl (by as_aux_lemma => kernel_rfl) (by as_aux_lemma => kernel_rfl) (by as_aux_lemma => kernel_rfl) (fun _ _ _ _ h => h) hHeld ?_ (Or.inl ⟨by rfl, ?_⟩) ?_
          rotate_left
          · intro W hW
            (try dsimp only at hW)
            first | (go_simp; done) | (go_simp; with_reducible rfl)
          ((try simp only [Act.put]); (try simp only [List.setIfInBounds_toArray]); (try simp only [List.set_cons_succ]); (try simp only [List.set_cons_zero]))
          refine takeL (i := 45) rfl (by as_aux_lemma => kernel_rfl) (by as_aux_lemma => kernel_rfl) (by as_aux_lemma => kernel_rfl) (fun _ _ _ _ h => h) hHeld ?_ (Or.inl ⟨by rfl, ?_⟩) ?_
          rotate_left
          · intro W hW
            (try dsimp only at hW)
            first | (go_simp; done) | (go_simp; with_reducible rfl)
          ((try simp only [Act.put]); (try simp only [List.setIfInBounds_toArray]); (try simp only [List.set_cons_succ]); (try simp only [List.set_cons_zero]))
          refine takeL (i := 46) rfl (by as_aux_lemma => kernel_rfl) (by as_aux_lemma => kernel_rfl) (by as_aux_lemma => kernel_rfl) (fun _ _ _ _ h => h) hHeld ?_ (Or.inl ⟨by rfl, ?_⟩) ?_
          rotate_left
          · intro W hW
            (try dsimp only at hW)
            first | (go_simp; done) | (go_simp; with_reducible rfl)
          ((try simp only [Act.put]); (try simp only [List.setIfInBounds_toArray]); (try simp only [List.set_cons_succ]); (try simp only [List.set_cons_zero]))
          refine takeL (i := 47) rfl (by as_aux_lemma => kernel_rfl) (by as_aux_lemma => kernel_rfl) (by as_aux_lemma => kernel_rfl) (fun _ _ _ _ h => h) hHeld ?_ (Or.inl ⟨by rfl, ?_⟩) ?_
          rotate_left
          · intro W hW
            (try dsimp only at hW)
            first | (go_simp; done) | (go_simp; with_reducible rfl)
          ((try simp only [Act.put]); (try simp only [List.setIfInBounds_toArray]); (try simp only [List.set_cons_succ]); (try simp only [List.set_cons_zero]))
          as_aux_lemma =>
            refine takeL (i := 48) rfl (by as_aux_lemma => kernel_rfl) (by as_aux_lemma => kernel_rfl) (by as_aux_lemma => kernel_rfl) (fun _ _ _ _ h => h) hHeld ?_ (Or.inl ⟨by rfl, ?_⟩) ?_
            rotate_left
            · intro W hW
              (try dsimp only at hW)
              first | (go_simp; done) | (go_simp; with_reducible rfl)
            ((try simp only [Act.put]); (try simp only [List.setIfInBounds_toArray]); (try simp only [List.set_cons_succ]); (try simp only [List.set_cons_zero]))
            refine callL (i := 49) rfl (by as_aux_lemma => kernel_rfl) (fun K hK => ?_)
            rw [if_pos (by rfl)]
            go_simp
            refine (f49.out _ H).mono ?_
            rintro e w16 ⟨rfl, H16⟩
            have H' := H16
            clear H hHeld
            clear H16
            have H := H'
            clear H'
            refine hK.out _ _ ?_ (fun hHeld => ?_)
            · exact ⟨H.cell (b := Y) (o := 0) (.there (.there (.here _ _))) rfl, H.cell (b := Y) (o := 1) (.there (.there (.here _ _))) rfl, H.cell (b := Y) (o := 2) (.there (.there (.here _ _))) rfl, H.cell (b := Y) (o := 3) (.there (.there (.here _ _))) rfl, H.cell (b := Y) (o := 4) (.there (.there (.here _ _))) rfl, H.cell (b := Y) (o := 5) (.there (.there (.here _ _))) rfl, H.cell (b := Y) (o := 6) (.there (.there (.here _ _))) rfl, H.cell (b := Y) (o := 7) (.there (.there (.here _ _))) rfl, H.cell (b := Y) (o := 8) (.there (.there (.here _ _))) rfl, H.cell (b := X) (o := 0) (.there (.there (.there (.there (.there (.here _ _)))))) rfl, H.cell (b := X) (o := 1) (.there (.there (.there (.there (.there (.here _ _)))))) rfl, H.cell (b := X) (o := 2) (.there (.there (.there (.there (.there (.here _ _)))))) rfl, H.cell (b := X) (o := 3) (.there (.there (.there (.there (.there (.here _ _)))))) rfl, H.cell (b := X) (o := 4) (.there (.there (.there (.there (.there (.here _ _)))))) rfl, H.cell (b := X) (o := 5) (.there (.there (.there (.there (.there (.here _ _)))))) rfl, H.cell (b := X) (o := 6) (.there (.there (.there (.there (.there (.here _ _)))))) rfl, H.cell (b := X) (o := 7) (.there (.there (.there (.there (.there (.here _ _)))))) rfl, H.cell (b := X) (o := 8) (.there (.there (.there (.there (.there (.here _ _)))))) rfl, H.cell (b := (X + 1)) (o := 0) (.there (.there (.there (.there (.here _ _))))) rfl, H.cell (b := (X + 1)) (o := 1) (.there (.there (.there (.there (.here _ _))))) rfl, H.cell (b := (X + 1)) (o := 2) (.there (.there (.there (.there (.here _ _))))) rfl, H.cell (b := (X + 1)) (o := 3) (.there (.there (.there (.there (.here _ _))))) rfl, H.cell (b := (X + 1)) (o := 4) (.there (.there (.there (.there (.here _ _))))) rfl, H.cell (b := (X + 1)) (o := 5) (.there (.there (.there (.there (.here _ _))))) rfl, H.cell (b := (X + 1)) (o := 6) (.there (.there (.there (.there (.here _ _))))) rfl, H.cell (b := (X + 1)) (o := 7) (.there (.there (.there (.there (.here _ _))))) rfl, H.cell (b := (X + 1)) (o := 8) (.there (.there (.there (.there (.here _ _))))) rfl, own7 H (.there (.there (.there (.here _ _)))) hgl'.out, hcv.out _ _ _ _ _ H (.there (.here _ _)), hcv.out _ _ _ _ _ H (.here _ _)⟩
            clear hK K
            ((try simp only [Act.put]); (try simp only [List.setIfInBounds_toArray]); (try simp only [List.set_cons_succ]); (try simp only [List.set_cons_zero]))
            refine takeL (i := 50) rfl (by as_aux_lemma => kernel_rfl) (by as_aux_lemma => kernel_rfl) (by as_aux_lemma => kernel_rfl) (fun _ _ _ _ h => h) hHeld ?_ (Or.inl ⟨by rfl, ?_⟩) ?_
            rotate_left
            · intro W hW
              (try dsimp only at hW)
              first | (go_simp; done) | (go_simp; with_reducible rfl)
            ((try simp only [Act.put]); (try simp only [List.setIfInBounds_toArray]); (try simp only [List.set_cons_succ]); (try simp only [List.set_cons_zero]))
            refine takeL (i := 51) rfl (by as_aux_lemma => kernel_rfl) (by as_aux_lemma => kernel_rfl) (by as_aux_lemma => kernel_rfl) (fun _ _ _ _ h => h) hHeld ?_ (Or.inl ⟨by rfl, ?_⟩) ?_
            rotate_left
            · intro W hW
              (try dsimp only at hW)
              first | (go_simp; done) | (go_simp; with_reducible rfl)
            ((try simp only [Act.put]); (try simp only [List.setIfInBounds_toArray]); (try simp only [List.set_cons_succ]); (try simp only [List.set_cons_zero]))
            refine takeL (i := 52) rfl (by as_aux_lemma => kernel_rfl) (by as_aux_lemma => kernel_rfl) (by as_aux_lemma => kernel_rfl) (fun _ _ _ _ h => h) hHeld ?_ (Or.inl ⟨by rfl, ?_⟩) ?_
            rotate_left
            · intro W hW
              (try dsimp only at hW)
              first | (go_simp; done) | (go_simp; with_reducible rfl)
            ((try simp only [Act.put]); (try simp only [List.setIfInBounds_toArray]); (try simp only [List.set_cons_succ]); (try simp only [List.set_cons_zero]))
            refine takeL (i := 53) rfl (by as_aux_lemma => kernel_rfl) (by as_aux_lemma => kernel_rfl) (by as_aux_lemma => kernel_rfl) (fun _ _ _ _ h => h) hHeld ?_ (Or.inl ⟨by rfl, ?_⟩) ?_
            rotate_left
            · intro W hW
              (try dsimp only at hW)
              first | (go_simp; done) | (go_simp; with_reducible rfl)
            ((try simp only [Act.put]); (try simp only [List.setIfInBounds_toArray]); (try simp only [List.set_cons_succ]); (try simp only [List.set_cons_zero]))
            refine takeL (i := 54) rfl (by as_aux_lemma => kernel_rfl) (by as_aux_lemma => kernel_rfl) (by as_aux_lemma => kernel_rfl) (fun _ _ _ _ h => h) hHeld ?_ (Or.inl ⟨by rfl, ?_⟩) ?_
            rotate_left
            · intro W hW
              (try dsimp only at hW)
              first | (go_simp; done) | (go_simp; with_reducible rfl)
            ((try simp only [Act.put]); (try simp only [List.setIfInBounds_toArray]); (try simp only [List.set_cons_succ]); (try simp only [List.set_cons_zero]))
            refine takeL (i := 55) rfl (by as_aux_lemma => kernel_rfl) (by as_aux_lemma => kernel_rfl) (by as_aux_lemma => kernel_rfl) (fun _ _ _ _ h => h) hHeld ?_ (Or.inl ⟨by rfl, ?_⟩) ?_
            rotate_left
            · intro W hW
              (try dsimp only at hW)
              first | (go_simp; done) | (go_simp; with_reducible rfl)
            ((try simp only [Act.put]); (try simp only [List.setIfInBounds_toArray]); (try simp only [List.set_cons_succ]); (try simp only [List.set_cons_zero]))
            refine takeL (i := 56) rfl (by as_aux_lemma => kernel_rfl) (by as_aux_lemma => kernel_rfl) (by as_aux_lemma => kernel_rfl) (fun _ _ _ _ h => h) hHeld ?_ (Or.inl ⟨by rfl, ?_⟩) ?_
            rotate_left
            · intro W hW
              (try dsimp only at hW)
              first | (go_simp; done) | (go_simp; with_reducible rfl)
            ((try simp only [Act.put]); (try simp only [List.setIfInBounds_toArray]); (try simp only [List.set_cons_succ]); (try simp only [List.set_cons_zero]))
            refine takeL (i := 57) rfl (by as_aux_lemma => kernel_rfl) (by as_aux_lemma => kernel_rfl) (by as_aux_lemma => kernel_rfl) (fun _ _ _ _ h => h) hHeld ?_ (Or.inl ⟨by rfl, ?_⟩) ?_
            rotate_left
            · intro W hW
              (try dsimp only at hW)
              first | (go_simp; done) | (go_simp; with_reducible rfl)
            ((try simp only [Act.put]); (try simp only [List.setIfInBounds_toArray]); (try simp only [List.set_cons_succ]); (try simp only [List.set_cons_zero]))
            refine takeL (i := 58) rfl (by as_aux_lemma => kernel_rfl) (by as_aux_lemma => kernel_rfl) (by as_aux_lemma => kernel_rfl) (fun _ _ _ _ h => h) hHeld ?_ (Or.inl ⟨by rfl, ?_⟩) ?_
            rotate_left
            · intro W hW
              (try dsimp only at hW)
              first | (go_simp; done) | (go_simp; with_reducible rfl)
            ((try simp only [Act.put]); (try simp only [List.setIfInBounds_toArray]); (try simp only [List.set_cons_succ]); (try simp only [List.set_cons_zero]))
            refine takeL (i := 59) rfl (by as_aux_lemma => kernel_rfl) (by as_aux_lemma => kernel_rfl) (by as_aux_lemma => kernel_rfl) (fun _ _ _ _ h => h) hHeld ?_ (Or.inl ⟨by rfl, ?_⟩) ?_
            rotate_left
            · intro W hW
              (try dsimp only at hW)
              first | (go_simp; done) | (go_simp; with_reducible rfl)
            ((try simp only [Act.put]); (try simp only [List.setIfInBounds_toArray]); (try simp only [List.set_cons_succ]); (try simp only [List.set_cons_zero]))
            as_aux_lemma =>
              refine takeL (i := 60) rfl (by as_aux_lemma => kernel_rfl) (by as_aux_lemma => kernel_rfl) (by as_aux_lemma => kernel_rfl) (fun _ _ _ _ h => h) hHeld ?_ (Or.inl ⟨by rfl, ?_⟩) ?_
              rotate_left
              · intro W hW
                (try dsimp only at hW)
                first | (go_simp; done) | (go_simp; with_reducible rfl)
              ((try simp only [Act.put]); (try simp only [List.setIfInBounds_toArray]); (try simp only [List.set_cons_succ]); (try simp only [List.set_cons_zero]))
              refine takeL (i := 61) rfl (by as_aux_lemma => kernel_rfl) (by as_aux_lemma => kernel_rfl) (by as_aux_lemma => kernel_rfl) (fun _ _ _ _ h => h) hHeld ?_ (Or.inl ⟨by rfl, ?_⟩) ?_
              rotate_left
              · intro W hW
                (try dsimp only at hW)
                first | (go_simp; done) | (go_simp; with_reducible rfl)
              ((try simp only [Act.put]); (try simp only [List.setIfInBounds_toArray]); (try simp only [List.set_cons_succ]); (try simp only [List.set_cons_zero]))
              refine takeL (i := 62) rfl (by as_aux_lemma => kernel_rfl) (by as_aux_lemma => kernel_rfl) (by as_aux_lemma => kernel_rfl) (fun _ _ _ _ h => h) hHeld ?_ (Or.inl ⟨by rfl, ?_⟩) ?_
              rotate_left
              · intro W hW
                (try dsimp only at hW)
                first | (go_simp; done) | (go_simp; with_reducible rfl)
              ((try simp only [Act.put]); (try simp only [List.setIfInBounds_toArray]); (try simp only [List.set_cons_succ]); (try simp only [List.set_cons_zero]))
              refine takeL (i := 63) rfl (by as_aux_lemma => kernel_rfl) (by as_aux_lemma => kernel_rfl) (by as_aux_lemma => kernel_rfl) (fun _ _ _ _ h => h) hHeld ?_ (Or.inl ⟨by rfl, ?_⟩) ?_
              rotate_left
              · intro W hW
                (try dsimp only at hW)
                first | (go_simp; done) | (go_simp; with_reducible rfl)
              ((try simp only [Act.put]); (try simp only [List.setIfInBounds_toArray]); (try simp only [List.set_cons_succ]); (try simp only [List.set_cons_zero]))
              refine takeL (i := 64) rfl (by as_aux_lemma => kernel_rfl) (by as_aux_lemma => kernel_rfl) (by as_aux_lemma => kernel_rfl) (fun _ _ _ _ h => h) hHeld ?_ (Or.inl ⟨by rfl, ?_⟩) ?_
              rotate_left
              · intro W hW
                (try dsimp only at hW)
                first | (go_simp; done) | (go_simp; with_reducible rfl)
              ((try simp only [Act.put]); (try simp only [List.setIfInBounds_toArray]); (try simp only [List.set_cons_succ]); (try simp only [List.set_cons_zero]))
              refine takeL (i := 65) rfl (by as_aux_lemma => kernel_rfl) (by as_aux_lemma => kernel_rfl) (by as_aux_lemma => kernel_rfl) (fun _ _ _ _ h => h) hHeld ?_ (Or.inl ⟨by rfl, ?_⟩) ?_
              rotate_left
              · intro W hW
                (try dsimp only at hW)
                first | (go_simp; done) | (go_simp; with_reducible rfl)
              ((try simp only [Act.put]); (try simp only [List.setIfInBounds_toArray]); (try simp only [List.set_cons_succ]); (try simp only [List.set_cons_zero]))
              refine takeL (i := 66) rfl (by as_aux_lemma => kernel_rfl) (by as_aux_lemma => kernel_rfl) (by as_aux_lemma => kernel_rfl) (fun _ _ _ _ h => h) hHeld ?_ (Or.inl ⟨by rfl, ?_⟩) ?_
              rotate_left
              · intro W hW
                (try dsimp only at hW)
                first | (go_simp; done) | (go_simp; with_reducible rfl)
              ((try simp only [Act.put]); (try simp only [List.setIfInBounds_toArray]); (try simp only [List.set_cons_succ]); (try simp only [List.set_cons_zero]))
              refine wpAnyH_done (by as_aux_lemma => kernel_rfl) ?_ _
              have hH := Lib.hid H
              clear H hHeld
              go_wp2_with fail
              go_ret
              exact ⟨rfl, hH.out.kp (.there (.there (.there (.there (.there (.there (.here _ _)))))))⟩
  · skip
    refine wp_region_held_drew (S := (fun W => W.cell? ⟨Y, 0, none⟩ = some (Value.int .i64 g.fr) ∧ W.cell? ⟨Y, 1, none⟩ = some (.int .i64 g.dst) ∧ W.cell? ⟨Y, 2, none⟩ = some (.int .i64 g.kind) ∧ W.cell? ⟨Y, 3, none⟩ = some (.int .u64 g.n) ∧ W.cell? ⟨Y, 4, none⟩ = some (.int .i64 g.by') ∧ W.cell? ⟨Y, 5, none⟩ = some (.int .u64 g.seq) ∧ W.cell? ⟨Y, 6, none⟩ = some (.int .u64 g.ack) ∧ W.cell? ⟨Y, 7, none⟩ = some (.int .u64 g.mask) ∧ W.cell? ⟨Y, 8, none⟩ = some (.slice (some ⟨q, 0, none⟩) n oc) ∧ W.cell? ⟨X, 0, none⟩ = some (Value.int .i64 g.fr) ∧ W.cell? ⟨X, 1, none⟩ = some (.int .i64 g.dst) ∧ W.cell? ⟨X, 2, none⟩ = some (.int .i64 g.kind) ∧ W.cell? ⟨X, 3, none⟩ = some (.int .u64 g.n) ∧ W.cell? ⟨X, 4, none⟩ = some (.int .i64 g.by') ∧ W.cell? ⟨X, 5, none⟩ = some (.int .u64 g.seq) ∧ W.cell? ⟨X, 6, none⟩ = some (.int .u64 g.ack) ∧ W.cell? ⟨X, 7, none⟩ = some (.int .u64 g.mask) ∧ W.cell? ⟨X, 8, none⟩ = some (.slice a n ca) ∧ W.cell? ⟨(X + 1), 0, none⟩ = some (Value.int .i64 h.fr) ∧ W.cell? ⟨(X + 1), 1, none⟩ = some (.int .i64 h.dst) ∧ W.cell? ⟨(X + 1), 2, none⟩ = some (.int .i64 h.kind) ∧ W.cell? ⟨(X + 1), 3, none⟩ = some (.int .u64 h.n) ∧ W.cell? ⟨(X + 1), 4, none⟩ = some (.int .i64 h.by') ∧ W.cell? ⟨(X + 1), 5, none⟩ = some (.int .u64 h.seq) ∧ W.cell? ⟨(X + 1), 6, none⟩ = some (.int .u64 h.ack) ∧ W.cell? ⟨(X + 1), 7, none⟩ = some (.int .u64 h.mask) ∧ W.cell? ⟨(X + 1), 8, none⟩ = some (.slice b m cb) ∧ W.cell? ⟨q, n, none⟩ = some (.int .u8 7) ∧ (convert 23 9 (.slice ea N ec)).run Tryd.prog W = .ok (.string T) W ∧ (convert 23 9 (.slice fa N fc)).run Tryd.prog W = .ok (.string T) W)) (by as_aux_lemma => kernel_rfl) ?_ (fun hHeld => ?_)
    · have H := hH.out.drew
      exact ⟨H.cell (b := Y) (o := 0) (.there (.there (.here _ _))) rfl, H.cell (b := Y) (o := 1) (.there (.there (.here _ _))) rfl, H.cell (b := Y) (o := 2) (.there (.there (.here _ _))) rfl, H.cell (b := Y) (o := 3) (.there (.there (.here _ _))) rfl, H.cell (b := Y) (o := 4) (.there (.there (.here _ _))) rfl, H.cell (b := Y) (o := 5) (.there (.there (.here _ _))) rfl, H.cell (b := Y) (o := 6) (.there (.there (.here _ _))) rfl, H.cell (b := Y) (o := 7) (.there (.there (.here _ _))) rfl, H.cell (b := Y) (o := 8) (.there (.there (.here _ _))) rfl, H.cell (b := X) (o := 0) (.there (.there (.there (.there (.there (.here _ _)))))) rfl, H.cell (b := X) (o := 1) (.there (.there (.there (.there (.there (.here _ _)))))) rfl, H.cell (b := X) (o := 2) (.there (.there (.there (.there (.there (.here _ _)))))) rfl, H.cell (b := X) (o := 3) (.there (.there (.there (.there (.there (.here _ _)))))) rfl, H.cell (b := X) (o := 4) (.there (.there (.there (.there (.there (.here _ _)))))) rfl, H.cell (b := X) (o := 5) (.there (.there (.there (.there (.there (.here _ _)))))) rfl, H.cell (b := X) (o := 6) (.there (.there (.there (.there (.there (.here _ _)))))) rfl, H.cell (b := X) (o := 7) (.there (.there (.there (.there (.there (.here _ _)))))) rfl, H.cell (b := X) (o := 8) (.there (.there (.there (.there (.there (.here _ _)))))) rfl, H.cell (b := (X + 1)) (o := 0) (.there (.there (.there (.there (.here _ _))))) rfl, H.cell (b := (X + 1)) (o := 1) (.there (.there (.there (.there (.here _ _))))) rfl, H.cell (b := (X + 1)) (o := 2) (.there (.there (.there (.there (.here _ _))))) rfl, H.cell (b := (X + 1)) (o := 3) (.there (.there (.there (.there (.here _ _))))) rfl, H.cell (b := (X + 1)) (o := 4) (.there (.there (.there (.there (.here _ _))))) rfl, H.cell (b := (X + 1)) (o := 5) (.there (.there (.there (.there (.here _ _))))) rfl, H.cell (b := (X + 1)) (o := 6) (.there (.there (.there (.there (.here _ _))))) rfl, H.cell (b := (X + 1)) (o := 7) (.there (.there (.there (.there (.here _ _))))) rfl, H.cell (b := (X + 1)) (o := 8) (.there (.there (.there (.there (.here _ _))))) rfl, own7 H (.there (.there (.there (.here _ _)))) hgl'.out, hcv.out _ _ _ _ _ H (.there (.here _ _)), hcv.out _ _ _ _ _ H (.here _ _)⟩
    have H := hH.out.drew
    generalize World.drew w8 = w9 at *
    clear hH
    refine takeL (i := 0) rfl (by as_aux_lemma => kernel_rfl) (by as_aux_lemma => kernel_rfl) (by as_aux_lemma => kernel_rfl) (fun _ _ _ _ h => h) hHeld ?_ (Or.inl ⟨by rfl, ?_⟩) ?_
    rotate_left
    · intro W hW
      (try dsimp only at hW)
      first | (go_simp; done) | (go_simp; with_reducible rfl)
    ((try simp only [Act.put]); (try simp only [List.setIfInBounds_toArray]); (try simp only [List.set_cons_succ]); (try simp only [List.set_cons_zero]))
    refine takeL (i := 1) rfl (by as_aux_lemma => kernel_rfl) (by as_aux_lemma => kernel_rfl) (by as_aux_lemma => kernel_rfl) (fun _ _ _ _ h => h) hHeld ?_ (Or.inl ⟨by rfl, ?_⟩) ?_
    rotate_left
    · intro W hW
      (try dsimp only at hW)
      first | (go_simp; done) | (go_simp; with_reducible rfl)
    ((try simp only [Act.put]); (try simp only [List.setIfInBounds_toArray]); (try simp only [List.set_cons_succ]); (try simp only [List.set_cons_zero]))
    refine takeL (i := 2) rfl (by as_aux_lemma => kernel_rfl) (by as_aux_lemma => kernel_rfl) (by as_aux_lemma => kernel_rfl) (fun _ _ _ _ h => h) hHeld ?_ (Or.inl ⟨by rfl, ?_⟩) ?_
    rotate_left
    · intro W hW
      (try dsimp only at hW)
      first | (go_simp; done) | (go_simp; with_reducible rfl)
    ((try simp only [Act.put]); (try simp only [List.setIfInBounds_toArray]); (try simp only [List.set_cons_succ]); (try simp only [List.set_cons_zero]))
    refine takeL (i := 3) rfl (by as_aux_lemma => kernel_rfl) (by as_aux_lemma => kernel_rfl) (by as_aux_lemma => kernel_rfl) (fun _ _ _ _ h => h) hHeld ?_ (Or.inl ⟨by rfl, ?_⟩) ?_
    rotate_left
    · intro W hW
      (try dsimp only at hW)
      first | (go_simp; done) | (go_simp; with_reducible rfl)
    ((try simp only [Act.put]); (try simp only [List.setIfInBounds_toArray]); (try simp only [List.set_cons_succ]); (try simp only [List.set_cons_zero]))
    refine takeL (i := 4) rfl (by as_aux_lemma => kernel_rfl) (by as_aux_lemma => kernel_rfl) (by as_aux_lemma => kernel_rfl) (fun _ _ _ _ h => h) hHeld ?_ (Or.inl ⟨by rfl, ?_⟩) ?_
    rotate_left
    · intro W hW
      (try dsimp only at hW)
      first | (go_simp; done) | (go_simp; with_reducible rfl)
    ((try simp only [Act.put]); (try simp only [List.setIfInBounds_toArray]); (try simp only [List.set_cons_succ]); (try simp only [List.set_cons_zero]))
    refine takeL (i := 5) rfl (by as_aux_lemma => kernel_rfl) (by as_aux_lemma => kernel_rfl) (by as_aux_lemma => kernel_rfl) (fun _ _ _ _ h => h) hHeld ?_ (Or.inl ⟨by rfl, ?_⟩) ?_
    rotate_left
    · intro W hW
      (try dsimp only at hW)
      first | (go_simp; done) | (go_simp; with_reducible rfl)
    ((try simp only [Act.put]); (try simp only [List.setIfInBounds_toArray]); (try simp only [List.set_cons_succ]); (try simp only [List.set_cons_zero]))
    refine takeL (i := 6) rfl (by as_aux_lemma => kernel_rfl) (by as_aux_lemma => kernel_rfl) (by as_aux_lemma => kernel_rfl) (fun _ _ _ _ h => h) hHeld ?_ (Or.inl ⟨by rfl, ?_⟩) ?_
    rotate_left
    · intro W hW
      (try dsimp only at hW)
      first | (go_simp; done) | (go_simp; with_reducible rfl)
    ((try simp only [Act.put]); (try simp only [List.setIfInBounds_toArray]); (try simp only [List.set_cons_succ]); (try simp only [List.set_cons_zero]))
    refine takeL (i := 7) rfl (by as_aux_lemma => kernel_rfl) (by as_aux_lemma => kernel_rfl) (by as_aux_lemma => kernel_rfl) (fun _ _ _ _ h => h) hHeld ?_ (Or.inl ⟨by rfl, ?_⟩) ?_
    rotate_left
    · intro W hW
      (try dsimp only at hW)
      first | (go_simp; done) | (go_simp; with_reducible rfl)
    ((try simp only [Act.put]); (try simp only [List.setIfInBounds_toArray]); (try simp only [List.set_cons_succ]); (try simp only [List.set_cons_zero]))
    refine takeL (i := 8) rfl (by as_aux_lemma => kernel_rfl) (by as_aux_lemma => kernel_rfl) (by as_aux_lemma => kernel_rfl) (fun _ _ _ _ h => h) hHeld ?_ (Or.inl ⟨by rfl, ?_⟩) ?_
    rotate_left
    · intro W hW
      (try dsimp only at hW)
      first | (go_simp; done) | (go_simp; with_reducible rfl)
    ((try simp only [Act.put]); (try simp only [List.setIfInBounds_toArray]); (try simp only [List.set_cons_succ]); (try simp only [List.set_cons_zero]))
    refine takeL (i := 9) rfl (by as_aux_lemma => kernel_rfl) (by as_aux_lemma => kernel_rfl) (by as_aux_lemma => kernel_rfl) (fun _ _ _ _ h => h) hHeld ?_ (Or.inl ⟨by rfl, ?_⟩) ?_
    rotate_left
    · intro W hW
      (try dsimp only at hW)
      first | (go_simp; done) | (go_simp; with_reducible rfl)
    ((try simp only [Act.put]); (try simp only [List.setIfInBounds_toArray]); (try simp only [List.set_cons_succ]); (try simp only [List.set_cons_zero]))
    refine takeL (i := 10) rfl (by as_aux_lemma => kernel_rfl) (by as_aux_lemma => kernel_rfl) (by as_aux_lemma => kernel_rfl) (fun _ _ _ _ h => h) hHeld ?_ (Or.inl ⟨by rfl, ?_⟩) ?_
    rotate_left
    · intro W hW
      (try dsimp only at hW)
      first | (go_simp; done) | (go_simp; with_reducible rfl)
    ((try simp only [Act.put]); (try simp only [List.setIfInBounds_toArray]); (try simp only [List.set_cons_succ]); (try simp only [List.set_cons_zero]))
    refine takeL (i := 11) rfl (by as_aux_lemma => kernel_rfl) (by as_aux_lemma => kernel_rfl) (by as_aux_lemma => kernel_rfl) (fun _ _ _ _ h => h) hHeld ?_ (Or.inl ⟨by rfl, ?_⟩) ?_
    rotate_left
    · intro W hW
      (try dsimp only at hW)
      first | (go_simp; done) | (go_simp; with_reducible rfl)
    ((try simp only [Act.put]); (try simp only [List.setIfInBounds_toArray]); (try simp only [List.set_cons_succ]); (try simp only [List.set_cons_zero]))
    as_aux_lemma =>
      refine takeL (i := 12) rfl (by as_aux_lemma => kernel_rfl) (by as_aux_lemma => kernel_rfl) (by as_aux_lemma => kernel_rfl) (fun _ _ _ _ h => h) hHeld ?_ (Or.inl ⟨by rfl, ?_⟩) ?_
      rotate_left
      · intro W hW
        (try dsimp only at hW)
        first | (go_simp; done) | (go_simp; with_reducible rfl)
      ((try simp only [Act.put]); (try simp only [List.setIfInBounds_toArray]); (try simp only [List.set_cons_succ]); (try simp only [List.set_cons_zero]))
      refine takeL (i := 13) rfl (by as_aux_lemma => kernel_rfl) (by as_aux_lemma => kernel_rfl) (by as_aux_lemma => kernel_rfl) (fun _ _ _ _ h => h) hHeld ?_ (Or.inl ⟨by rfl, ?_⟩) ?_
      rotate_left
      · intro W hW
        (try dsimp only at hW)
        first | (go_simp; done) | (go_simp; with_reducible rfl)
      ((try simp only [Act.put]); (try simp only [List.setIfInBounds_toArray]); (try simp only [List.set_cons_succ]); (try simp only [List.set_cons_zero]))
      refine takeL (i := 14) rfl (by as_aux_lemma => kernel_rfl) (by as_aux_lemma => kernel_rfl) (by as_aux_lemma => kernel_rfl) (fun _ _ _ _ h => h) hHeld ?_ (Or.inl ⟨by rfl, ?_⟩) ?_
      rotate_left
      · intro W hW
        (try dsimp only at hW)
        first | (go_simp; done) | (go_simp; with_reducible rfl)
      ((try simp only [Act.put]); (try simp only [List.setIfInBounds_toArray]); (try simp only [List.set_cons_succ]); (try simp only [List.set_cons_zero]))
      refine takeL (i := 15) rfl (by as_aux_lemma => kernel_rfl) (by as_aux_lemma => kernel_rfl) (by as_aux_lemma => kernel_rfl) (fun _ _ _ _ h => h) hHeld ?_ (Or.inl ⟨by rfl, ?_⟩) ?_
      rotate_left
      · intro W hW
        (try dsimp only at hW)
        first | (go_simp; done) | (go_simp; with_reducible rfl)
      ((try simp only [Act.put]); (try simp only [List.setIfInBounds_toArray]); (try simp only [List.set_cons_succ]); (try simp only [List.set_cons_zero]))
      refine takeL (i := 16) rfl (by as_aux_lemma => kernel_rfl) (by as_aux_lemma => kernel_rfl) (by as_aux_lemma => kernel_rfl) (fun _ _ _ _ h => h) hHeld ?_ (Or.inl ⟨by rfl, ?_⟩) ?_
      rotate_left
      · intro W hW
        (try dsimp only at hW)
        first | (go_simp; done) | (go_simp; with_reducible rfl)
      ((try simp only [Act.put]); (try simp only [List.setIfInBounds_toArray]); (try simp only [List.set_cons_succ]); (try simp only [List.set_cons_zero]))
      refine takeL (i := 17) rfl (by as_aux_lemma => kernel_rfl) (by as_aux_lemma => kernel_rfl) (by as_aux_lemma => kernel_rfl) (fun _ _ _ _ h => h) hHeld ?_ (Or.inl ⟨by rfl, ?_⟩) ?_
      rotate_left
      · intro W hW
        (try dsimp only at hW)
        first | (go_simp; done) | (go_simp; with_reducible rfl)
      ((try simp only [Act.put]); (try simp only [List.setIfInBounds_toArray]); (try simp only [List.set_cons_succ]); (try simp only [List.set_cons_zero]))
      refine takeL (i := 18) rfl (by as_aux_lemma => kernel_rfl) (by as_aux_lemma => kernel_rfl) (by as_aux_lemma => kernel_rfl) (fun _ _ _ _ h => h) hHeld ?_ (Or.inl ⟨by rfl, ?_⟩) ?_
      rotate_left
      · intro W hW
        (try dsimp only at hW)
        first | (go_simp; done) | (go_simp; with_reducible rfl)
      ((try simp only [Act.put]); (try simp only [List.setIfInBounds_toArray]); (try simp only [List.set_cons_succ]); (try simp only [List.set_cons_zero]))
      refine takeL (i := 19) rfl (by as_aux_lemma => kernel_rfl) (by as_aux_lemma => kernel_rfl) (by as_aux_lemma => kernel_rfl) (fun _ _ _ _ h => h) hHeld ?_ (Or.inl ⟨by rfl, ?_⟩) ?_
      rotate_left
      · intro W hW
        (try dsimp only at hW)
        first | (go_simp; done) | (go_simp; with_reducible rfl)
      ((try simp only [Act.put]); (try simp only [List.setIfInBounds_toArray]); (try simp only [List.set_cons_succ]); (try simp only [List.set_cons_zero]))
      refine takeL (i := 20) rfl (by as_aux_lemma => kernel_rfl) (by as_aux_lemma => kernel_rfl) (by as_aux_lemma => kernel_rfl) (fun _ _ _ _ h => h) hHeld ?_ (Or.inl ⟨by rfl, ?_⟩) ?_
      rotate_left
      · intro W hW
        (try dsimp only at hW)
        first | (go_simp; done) | (go_simp; with_reducible rfl)
      ((try simp only [Act.put]); (try simp only [List.setIfInBounds_toArray]); (try simp only [List.set_cons_succ]); (try simp only [List.set_cons_zero]))
      refine takeL (i := 21) rfl (by as_aux_lemma => kernel_rfl) (by as_aux_lemma => kernel_rfl) (by as_aux_lemma => kernel_rfl) (fun _ _ _ _ h => h) hHeld ?_ (Or.inl ⟨by rfl, ?_⟩) ?_
      rotate_left
      · intro W hW
        (try dsimp only at hW)
        first | (go_simp; done) | (go_simp; with_reducible rfl)
      ((try simp only [Act.put]); (try simp only [List.setIfInBounds_toArray]); (try simp only [List.set_cons_succ]); (try simp only [List.set_cons_zero]))
      refine takeL (i := 22) rfl (by as_aux_lemma => kernel_rfl) (by as_aux_lemma => kernel_rfl) (by as_aux_lemma => kernel_rfl) (fun _ _ _ _ h => h) hHeld ?_ (Or.inl ⟨by rfl, ?_⟩) ?_
      rotate_left
      · intro W hW
        (try dsimp only at hW)
        first | (go_simp; done) | (go_simp; with_reducible rfl)
      ((try simp only [Act.put]); (try simp only [List.setIfInBounds_toArray]); (try simp only [List.set_cons_succ]); (try simp only [List.set_cons_zero]))
      refine takeL (i := 23) rfl (by as_aux_lemma => kernel_rfl) (by as_aux_lemma => kernel_rfl) (by as_aux_lemma => kernel_rfl) (fun _ _ _ _ h => h) hHeld ?_ (Or.inl ⟨by rfl, ?_⟩) ?_
      rotate_left
      · intro W hW
        (try dsimp only at hW)
        first | (go_simp; done) | (go_simp; with_reducible rfl)
      ((try simp only [Act.put]); (try simp only [List.setIfInBounds_toArray]); (try simp only [List.set_cons_succ]); (try simp only [List.set_cons_zero]))
      as_aux_lemma =>
        refine takeL (i := 24) rfl (by as_aux_lemma => kernel_rfl) (by as_aux_lemma => kernel_rfl) (by as_aux_lemma => kernel_rfl) (fun _ _ _ _ h => h) hHeld ?_ (Or.inl ⟨by rfl, ?_⟩) ?_
        rotate_left
        · intro W hW
          (try dsimp only at hW)
          first | (go_simp; done) | (go_simp; with_reducible rfl)
        ((try simp only [Act.put]); (try simp only [List.setIfInBounds_toArray]); (try simp only [List.set_cons_succ]); (try simp only [List.set_cons_zero]))
        refine takeL (i := 26) rfl (by as_aux_lemma => kernel_rfl) (by as_aux_lemma => kernel_rfl) (by as_aux_lemma => kernel_rfl) (fun _ _ _ _ h => h) hHeld ?_ (Or.inl ⟨by rfl, ?_⟩) ?_
        rotate_left
        · intro W hW
          (try dsimp only at hW)
          first | (go_simp; done) | (go_simp; with_reducible rfl)
        ((try simp only [Act.put]); (try simp only [List.setIfInBounds_toArray]); (try simp only [List.set_cons_succ]); (try simp only [List.set_cons_zero]))
        refine callL (i := 25) rfl (by as_aux_lemma => kernel_rfl) (fun K hK => ?_)
        rw [if_pos (by rfl)]
        go_simp
        refine (f25.out _ H).mono ?_
        rintro e w10 ⟨rfl, H10⟩
        have H' := H10
        clear H hHeld
        clear H10
        have H := H'
        clear H'
        refine hK.out _ _ ?_ (fun hHeld => ?_)
        · exact ⟨H.cell (b := Y) (o := 0) (.there (.there (.here _ _))) rfl, H.cell (b := Y) (o := 1) (.there (.there (.here _ _))) rfl, H.cell (b := Y) (o := 2) (.there (.there (.here _ _))) rfl, H.cell (b := Y) (o := 3) (.there (.there (.here _ _))) rfl, H.cell (b := Y) (o := 4) (.there (.there (.here _ _))) rfl, H.cell (b := Y) (o := 5) (.there (.there (.here _ _))) rfl, H.cell (b := Y) (o := 6) (.there (.there (.here _ _))) rfl, H.cell (b := Y) (o := 7) (.there (.there (.here _ _))) rfl, H.cell (b := Y) (o := 8) (.there (.there (.here _ _))) rfl, H.cell (b := X) (o := 0) (.there (.there (.there (.there (.there (.here _ _)))))) rfl, H.cell (b := X) (o := 1) (.there (.there (.there (.there (.there (.here _ _)))))) rfl, H.cell (b := X) (o := 2) (.there (.there (.there (.there (.there (.here _ _)))))) rfl, H.cell (b := X) (o := 3) (.there (.there (.there (.there (.there (.here _ _)))))) rfl, H.cell (b := X) (o := 4) (.there (.there (.there (.there (.there (.here _ _)))))) rfl, H.cell (b := X) (o := 5) (.there (.there (.there (.there (.there (.here _ _)))))) rfl, H.cell (b := X) (o := 6) (.there (.there (.there (.there (.there (.here _ _)))))) rfl, H.cell (b := X) (o := 7) (.there (.there (.there (.there (.there (.here _ _)))))) rfl, H.cell (b := X) (o := 8) (.there (.there (.there (.there (.there (.here _ _)))))) rfl, H.cell (b := (X + 1)) (o := 0) (.there (.there (.there (.there (.here _ _))))) rfl, H.cell (b := (X + 1)) (o := 1) (.there (.there (.there (.there (.here _ _))))) rfl, H.cell (b := (X + 1)) (o := 2) (.there (.there (.there (.there (.here _ _))))) rfl, H.cell (b := (X + 1)) (o := 3) (.there (.there (.there (.there (.here _ _))))) rfl, H.cell (b := (X + 1)) (o := 4) (.there (.there (.there (.there (.here _ _))))) rfl, H.cell (b := (X + 1)) (o := 5) (.there (.there (.there (.there (.here _ _))))) rfl, H.cell (b := (X + 1)) (o := 6) (.there (.there (.there (.there (.here _ _))))) rfl, H.cell (b := (X + 1)) (o := 7) (.there (.there (.there (.there (.here _ _))))) rfl, H.cell (b := (X + 1)) (o := 8) (.there (.there (.there (.there (.here _ _))))) rfl, own7 H (.there (.there (.there (.here _ _)))) hgl'.out, hcv.out _ _ _ _ _ H (.there (.here _ _)), hcv.out _ _ _ _ _ H (.here _ _)⟩
        clear hK K
        ((try simp only [Act.put]); (try simp only [List.setIfInBounds_toArray]); (try simp only [List.set_cons_succ]); (try simp only [List.set_cons_zero]))
        refine callL (i := 27) rfl (by as_aux_lemma => kernel_rfl) (fun K hK => ?_)
        rw [if_pos (by rfl)]
        go_simp
        refine (f27.out _ H).mono ?_
        rintro e w11 ⟨rfl, H11⟩
        have H' := H11
        clear H hHeld
        clear H11
        have H := H'
        clear H'
        refine hK.out _ _ ?_ (fun hHeld => ?_)
        · exact ⟨H.cell (b := Y) (o := 0) (.there (.there (.here _ _))) rfl, H.cell (b := Y) (o := 1) (.there (.there (.here _ _))) rfl, H.cell (b := Y) (o := 2) (.there (.there (.here _ _))) rfl, H.cell (b := Y) (o := 3) (.there (.there (.here _ _))) rfl, H.cell (b := Y) (o := 4) (.there (.there (.here _ _))) rfl, H.cell (b := Y) (o := 5) (.there (.there (.here _ _))) rfl, H.cell (b := Y) (o := 6) (.there (.there (.here _ _))) rfl, H.cell (b := Y) (o := 7) (.there (.there (.here _ _))) rfl, H.cell (b := Y) (o := 8) (.there (.there (.here _ _))) rfl, H.cell (b := X) (o := 0) (.there (.there (.there (.there (.there (.here _ _)))))) rfl, H.cell (b := X) (o := 1) (.there (.there (.there (.there (.there (.here _ _)))))) rfl, H.cell (b := X) (o := 2) (.there (.there (.there (.there (.there (.here _ _)))))) rfl, H.cell (b := X) (o := 3) (.there (.there (.there (.there (.there (.here _ _)))))) rfl, H.cell (b := X) (o := 4) (.there (.there (.there (.there (.there (.here _ _)))))) rfl, H.cell (b := X) (o := 5) (.there (.there (.there (.there (.there (.here _ _)))))) rfl, H.cell (b := X) (o := 6) (.there (.there (.there (.there (.there (.here _ _)))))) rfl, H.cell (b := X) (o := 7) (.there (.there (.there (.there (.there (.here _ _)))))) rfl, H.cell (b := X) (o := 8) (.there (.there (.there (.there (.there (.here _ _)))))) rfl, H.cell (b := (X + 1)) (o := 0) (.there (.there (.there (.there (.here _ _))))) rfl, H.cell (b := (X + 1)) (o := 1) (.there (.there (.there (.there (.here _ _))))) rfl, H.cell (b := (X + 1)) (o := 2) (.there (.there (.there (.there (.here _ _))))) rfl, H.cell (b := (X + 1)) (o := 3) (.there (.there (.there (.there (.here _ _))))) rfl, H.cell (b := (X + 1)) (o := 4) (.there (.there (.there (.there (.here _ _))))) rfl, H.cell (b := (X + 1)) (o := 5) (.there (.there (.there (.there (.here _ _))))) rfl, H.cell (b := (X + 1)) (o := 6) (.there (.there (.there (.there (.here _ _))))) rfl, H.cell (b := (X + 1)) (o := 7) (.there (.there (.there (.there (.here _ _))))) rfl, H.cell (b := (X + 1)) (o := 8) (.there (.there (.there (.there (.here _ _))))) rfl, own7 H (.there (.there (.there (.here _ _)))) hgl'.out, hcv.out _ _ _ _ _ H (.there (.here _ _)), hcv.out _ _ _ _ _ H (.here _ _)⟩
        clear hK K
        ((try simp only [Act.put]); (try simp only [List.setIfInBounds_toArray]); (try simp only [List.set_cons_succ]); (try simp only [List.set_cons_zero]))
        refine takeL (i := 28) rfl (by as_aux_lemma => kernel_rfl) (by as_aux_lemma => kernel_rfl) (by as_aux_lemma => kernel_rfl) (fun _ _ _ _ h => h) hHeld ?_ (Or.inl ⟨by rfl, ?_⟩) ?_
        rotate_left
        · intro W hW
          (try dsimp only at hW)
          first | (go_simp; done) | (go_simp; with_reducible rfl)
        ((try simp only [Act.put]); (try simp only [List.setIfInBounds_toArray]); (try simp only [List.set_cons_succ]); (try simp only [List.set_cons_zero]))
        refine takeL (i := 29) rfl (by as_aux_lemma => kernel_rfl) (by as_aux_lemma => kernel_rfl) (by as_aux_lemma => kernel_rfl) (fun _ _ _ _ h => h) hHeld ?_ (Or.inl ⟨by rfl, ?_⟩) ?_
        rotate_left
        · intro W hW
          (try dsimp only at hW)
          first | (go_simp; done) | (go_simp; with_reducible rfl)
        ((try simp only [Act.put]); (try simp only [List.setIfInBounds_toArray]); (try simp only [List.set_cons_succ]); (try simp only [List.set_cons_zero]))
        refine takeL (i := 30) rfl (by as_aux_lemma => kernel_rfl) (by as_aux_lemma => kernel_rfl) (by as_aux_lemma => kernel_rfl) (fun _ _ _ _ h => h) hHeld ?_ (Or.inl ⟨by rfl, ?_⟩) ?_
        rotate_left
        · intro W hW
          (try dsimp only at hW)
          first | (go_simp; done) | (go_simp; with_reducible rfl)
        ((try simp only [Act.put]); (try simp only [List.setIfInBounds_toArray]); (try simp only [List.set_cons_succ]); (try simp only [List.set_cons_zero]))
        refine takeL (i := 31) rfl (by as_aux_lemma => kernel_rfl) (by as_aux_lemma => kernel_rfl) (by as_aux_lemma => kernel_rfl) (fun _ _ _ _ h => h) hHeld ?_ (Or.inl ⟨by rfl, ?_⟩) ?_
        rotate_left
        · intro W hW
          (try dsimp only at hW)
          first | (go_simp; done) | (go_simp; with_reducible rfl)
        ((try simp only [Act.put]); (try simp only [List.setIfInBounds_toArray]); (try simp only [List.set_cons_succ]); (try simp only [List.set_cons_zero]))
        refine takeL (i := 33) rfl (by as_aux_lemma => kernel_rfl) (by as_aux_lemma => kernel_rfl) (by as_aux_lemma => kernel_rfl) (fun _ _ _ _ h => h) hHeld ?_ (Or.inl ⟨by rfl, ?_⟩) ?_
        rotate_left
        · intro W hW
          (try dsimp only at hW)
          first | (go_simp; done) | (go_simp; with_reducible rfl)
        ((try simp only [Act.put]); (try simp only [List.setIfInBounds_toArray]); (try simp only [List.set_cons_succ]); (try simp only [List.set_cons_zero]))
        refine callL (i := 32) rfl (by as_aux_lemma => kernel_rfl) (fun K hK => ?_)
        rw [if_pos (by rfl)]
        go_simp
        refine (f32.out _ H).mono ?_
        rintro e w12 ⟨rfl, H12⟩
        have H' := H12
        clear H hHeld
        clear H12
        have H := H'
        clear H'
        refine hK.out _ _ ?_ (fun hHeld => ?_)
        · exact ⟨H.cell (b := Y) (o := 0) (.there (.there (.here _ _))) rfl, H.cell (b := Y) (o := 1) (.there (.there (.here _ _))) rfl, H.cell (b := Y) (o := 2) (.there (.there (.here _ _))) rfl, H.cell (b := Y) (o := 3) (.there (.there (.here _ _))) rfl, H.cell (b := Y) (o := 4) (.there (.there (.here _ _))) rfl, H.cell (b := Y) (o := 5) (.there (.there (.here _ _))) rfl, H.cell (b := Y) (o := 6) (.there (.there (.here _ _))) rfl, H.cell (b := Y) (o := 7) (.there (.there (.here _ _))) rfl, H.cell (b := Y) (o := 8) (.there (.there (.here _ _))) rfl, H.cell (b := X) (o := 0) (.there (.there (.there (.there (.there (.here _ _)))))) rfl, H.cell (b := X) (o := 1) (.there (.there (.there (.there (.there (.here _ _)))))) rfl, H.cell (b := X) (o := 2) (.there (.there (.there (.there (.there (.here _ _)))))) rfl, H.cell (b := X) (o := 3) (.there (.there (.there (.there (.there (.here _ _)))))) rfl, H.cell (b := X) (o := 4) (.there (.there (.there (.there (.there (.here _ _)))))) rfl, H.cell (b := X) (o := 5) (.there (.there (.there (.there (.there (.here _ _)))))) rfl, H.cell (b := X) (o := 6) (.there (.there (.there (.there (.there (.here _ _)))))) rfl, H.cell (b := X) (o := 7) (.there (.there (.there (.there (.there (.here _ _)))))) rfl, H.cell (b := X) (o := 8) (.there (.there (.there (.there (.there (.here _ _)))))) rfl, H.cell (b := (X + 1)) (o := 0) (.there (.there (.there (.there (.here _ _))))) rfl, H.cell (b := (X + 1)) (o := 1) (.there (.there (.there (.there (.here _ _))))) rfl, H.cell (b := (X + 1)) (o := 2) (.there (.there (.there (.there (.here _ _))))) rfl, H.cell (b := (X + 1)) (o := 3) (.there (.there (.there (.there (.here _ _))))) rfl, H.cell (b := (X + 1)) (o := 4) (.there (.there (.there (.there (.here _ _))))) rfl, H.cell (b := (X + 1)) (o := 5) (.there (.there (.there (.there (.here _ _))))) rfl, H.cell (b := (X + 1)) (o := 6) (.there (.there (.there (.there (.here _ _))))) rfl, H.cell (b := (X + 1)) (o := 7) (.there (.there (.there (.there (.here _ _))))) rfl, H.cell (b := (X + 1)) (o := 8) (.there (.there (.there (.there (.here _ _))))) rfl, own7 H (.there (.there (.there (.here _ _)))) hgl'.out, hcv.out _ _ _ _ _ H (.there (.here _ _)), hcv.out _ _ _ _ _ H (.here _ _)⟩
        clear hK K
        ((try simp only [Act.put]); (try simp only [List.setIfInBounds_toArray]); (try simp only [List.set_cons_succ]); (try simp only [List.set_cons_zero]))
        refine callL (i := 34) rfl (by as_aux_lemma => kernel_rfl) (fun K hK => ?_)
        rw [if_pos (by rfl)]
        go_simp
        refine (f34.out _ H).mono ?_
        rintro e w13 ⟨rfl, H13⟩
        have H' := H13
        clear H hHeld
        clear H13
        have H := H'
        clear H'
        refine hK.out _ _ ?_ (fun hHeld => ?_)
        · exact ⟨H.cell (b := Y) (o := 0) (.there (.there (.here _ _))) rfl, H.cell (b := Y) (o := 1) (.there (.there (.here _ _))) rfl, H.cell (b := Y) (o := 2) (.there (.there (.here _ _))) rfl, H.cell (b := Y) (o := 3) (.there (.there (.here _ _))) rfl, H.cell (b := Y) (o := 4) (.there (.there (.here _ _))) rfl, H.cell (b := Y) (o := 5) (.there (.there (.here _ _))) rfl, H.cell (b := Y) (o := 6) (.there (.there (.here _ _))) rfl, H.cell (b := Y) (o := 7) (.there (.there (.here _ _))) rfl, H.cell (b := Y) (o := 8) (.there (.there (.here _ _))) rfl, H.cell (b := X) (o := 0) (.there (.there (.there (.there (.there (.here _ _)))))) rfl, H.cell (b := X) (o := 1) (.there (.there (.there (.there (.there (.here _ _)))))) rfl, H.cell (b := X) (o := 2) (.there (.there (.there (.there (.there (.here _ _)))))) rfl, H.cell (b := X) (o := 3) (.there (.there (.there (.there (.there (.here _ _)))))) rfl, H.cell (b := X) (o := 4) (.there (.there (.there (.there (.there (.here _ _)))))) rfl, H.cell (b := X) (o := 5) (.there (.there (.there (.there (.there (.here _ _)))))) rfl, H.cell (b := X) (o := 6) (.there (.there (.there (.there (.there (.here _ _)))))) rfl, H.cell (b := X) (o := 7) (.there (.there (.there (.there (.there (.here _ _)))))) rfl, H.cell (b := X) (o := 8) (.there (.there (.there (.there (.there (.here _ _)))))) rfl, H.cell (b := (X + 1)) (o := 0) (.there (.there (.there (.there (.here _ _))))) rfl, H.cell (b := (X + 1)) (o := 1) (.there (.there (.there (.there (.here _ _))))) rfl, H.cell (b := (X + 1)) (o := 2) (.there (.there (.there (.there (.here _ _))))) rfl, H.cell (b := (X + 1)) (o := 3) (.there (.there (.there (.there (.here _ _))))) rfl, H.cell (b := (X + 1)) (o := 4) (.there (.there (.there (.there (.here _ _))))) rfl, H.cell (b := (X + 1)) (o := 5) (.there (.there (.there (.there (.here _ _))))) rfl, H.cell (b := (X + 1)) (o := 6) (.there (.there (.there (.there (.here _ _))))) rfl, H.cell (b := (X + 1)) (o := 7) (.there (.there (.there (.there (.here _ _))))) rfl, H.cell (b := (X + 1)) (o := 8) (.there (.there (.there (.there (.here _ _))))) rfl, own7 H (.there (.there (.there (.here _ _)))) hgl'.out, hcv.out _ _ _ _ _ H (.there (.here _ _)), hcv.out _ _ _ _ _ H (.here _ _)⟩
        clear hK K
        ((try simp only [Act.put]); (try simp only [List.setIfInBounds_toArray]); (try simp only [List.set_cons_succ]); (try simp only [List.set_cons_zero]))
        refine takeL (i := 35) rfl (by as_aux_lemma => kernel_rfl) (by as_aux_lemma => kernel_rfl) (by as_aux_lemma => kernel_rfl) (fun _ _ _ _ h => h) hHeld ?_ (Or.inl ⟨by rfl, ?_⟩) ?_
        rotate_left
        · intro W hW
          (try dsimp only at hW)
          first | (go_simp; done) | (go_simp; with_reducible rfl)
        ((try simp only [Act.put]); (try simp only [List.setIfInBounds_toArray]); (try simp only [List.set_cons_succ]); (try simp only [List.set_cons_zero]))
        as_aux_lemma =>
          refine takeL (i := 36) rfl (by as_aux_lemma => kernel_rfl) (by as_aux_lemma => kernel_rfl) (by as_aux_lemma => kernel_rfl) (fun _ _ _ _ h => h) hHeld ?_ (Or.inl ⟨by rfl, ?_⟩) ?_
          rotate_left
          · intro W hW
            (try dsimp only at hW)
            first | (go_simp; done) | (go_simp; with_reducible rfl)
          ((try simp only [Act.put]); (try simp only [List.setIfInBounds_toArray]); (try simp only [List.set_cons_succ]); (try simp only [List.set_cons_zero]))
          refine takeL (i := 37) rfl (by as_aux_lemma => kernel_rfl) (by as_aux_lemma => kernel_rfl) (by as_aux_lemma => kernel_rfl) (fun _ _ _ _ h => h) hHeld ?_ (Or.inl ⟨by rfl, ?_⟩) ?_
          rotate_left
          · intro W hW
            (try dsimp only at hW)
            first | (go_simp; done) | (go_simp; with_reducible rfl)
          ((try simp only [Act.put]); (try simp only [List.setIfInBounds_toArray]); (try simp only [List.set_cons_succ]); (try simp only [List.set_cons_zero]))
          refine takeL (i := 38) rfl (by as_aux_lemma => kernel_rfl) (by as_aux_lemma => kernel_rfl) (by as_aux_lemma => kernel_rfl) (fun _ _ _ _ h => h) hHeld ?_ (Or.inl ⟨by rfl, ?_⟩) ?_
          rotate_left
          · intro W hW
            (try dsimp only at hW)
            first | (go_simp; done) | (go_simp; with_reducible rfl)
          ((try simp only [Act.put]); (try simp only [List.setIfInBounds_toArray]); (try simp only [List.set_cons_succ]); (try simp only [List.set_cons_zero]))
          refine takeL (i := 39) rfl (by as_aux_lemma => kernel_rfl) (by as_aux_lemma => kernel_rfl) (by as_aux_lemma => kernel_rfl) (fun _ _ _ _ h => h) hHeld ?_ (Or.inl ⟨by rfl, ?_⟩) ?_
          rotate_left
          · intro W hW
            (try dsimp only at hW)
            first | (go_simp; done) | (go_simp; with_reducible rfl)
          ((try simp only [Act.put]); (try simp only [List.setIfInBounds_toArray]); (try simp only [List.set_cons_succ]); (try simp only [List.set_cons_zero]))
          refine takeL (i := 41) rfl (by as_aux_lemma => kernel_rfl) (by as_aux_lemma => kernel_rfl) (by as_aux_lemma => kernel_rfl) (fun _ _ _ _ h => h) hHeld ?_ (Or.inl ⟨by rfl, ?_⟩) ?_
          rotate_left
          · intro W hW
            (try dsimp only at hW)
            first | (go_simp; done) | (go_simp; with_reducible rfl)
          ((try simp only [Act.put]); (try simp only [List.setIfInBounds_toArray]); (try simp only [List.set_cons_succ]); (try simp only [List.set_cons_zero]))
          refine takeL (i := 42) rfl (by as_aux_lemma => kernel_rfl) (by as_aux_lemma => kernel_rfl) (by as_aux_lemma => kernel_rfl) (fun _ _ _ _ h => h) hHeld ?_ (Or.inl ⟨by rfl, ?_⟩) ?_
          rotate_left
          · intro W hW
            (try dsimp only at hW)
            first | (go_simp; done) | (go_simp; with_reducible rfl)
          ((try simp only [Act.put]); (try simp only [List.setIfInBounds_toArray]); (try simp only [List.set_cons_succ]); (try simp only [List.set_cons_zero]))
          refine callL (i := 40) rfl (by as_aux_lemma => kernel_rfl) (fun K hK => ?_)
          rw [if_pos (by rfl)]
          go_simp
          refine (f40.out _ H).mono ?_
          rintro e w14 ⟨rfl, H14⟩
          have H' := H14
          clear H hHeld
          clear H14
          have H := H'
          clear H'
          refine hK.out _ _ ?_ (fun hHeld => ?_)
          · exact ⟨H.cell (b := Y) (o := 0) (.there (.there (.here _ _))) rfl, H.cell (b := Y) (o := 1) (.there (.there (.here _ _))) rfl, H.cell (b := Y) (o := 2) (.there (.there (.here _ _))) rfl, H.cell (b := Y) (o := 3) (.there (.there (.here _ _))) rfl, H.cell (b := Y) (o := 4) (.there (.there (.here _ _))) rfl, H.cell (b := Y) (o := 5) (.there (.there (.here _ _))) rfl, H.cell (b := Y) (o := 6) (.there (.there (.here _ _))) rfl, H.cell (b := Y) (o := 7) (.there (.there (.here _ _))) rfl, H.cell (b := Y) (o := 8) (.there (.there (.here _ _))) rfl, H.cell (b := X) (o := 0) (.there (.there (.there (.there (.there (.here _ _)))))) rfl, H.cell (b := X) (o := 1) (.there (.there (.there (.there (.there (.here _ _)))))) rfl, H.cell (b := X) (o := 2) (.there (.there (.there (.there (.there (.here _ _)))))) rfl, H.cell (b := X) (o := 3) (.there (.there (.there (.there (.there (.here _ _)))))) rfl, H.cell (b := X) (o := 4) (.there (.there (.there (.there (.there (.here _ _)))))) rfl, H.cell (b := X) (o := 5) (.there (.there (.there (.there (.there (.here _ _)))))) rfl, H.cell (b := X) (o := 6) (.there (.there (.there (.there (.there (.here _ _)))))) rfl, H.cell (b := X) (o := 7) (.there (.there (.there (.there (.there (.here _ _)))))) rfl, H.cell (b := X) (o := 8) (.there (.there (.there (.there (.there (.here _ _)))))) rfl, H.cell (b := (X + 1)) (o := 0) (.there (.there (.there (.there (.here _ _))))) rfl, H.cell (b := (X + 1)) (o := 1) (.there (.there (.there (.there (.here _ _))))) rfl, H.cell (b := (X + 1)) (o := 2) (.there (.there (.there (.there (.here _ _))))) rfl, H.cell (b := (X + 1)) (o := 3) (.there (.there (.there (.there (.here _ _))))) rfl, H.cell (b := (X + 1)) (o := 4) (.there (.there (.there (.there (.here _ _))))) rfl, H.cell (b := (X + 1)) (o := 5) (.there (.there (.there (.there (.here _ _))))) rfl, H.cell (b := (X + 1)) (o := 6) (.there (.there (.there (.there (.here _ _))))) rfl, H.cell (b := (X + 1)) (o := 7) (.there (.there (.there (.there (.here _ _))))) rfl, H.cell (b := (X + 1)) (o := 8) (.there (.there (.there (.there (.here _ _))))) rfl, own7 H (.there (.there (.there (.here _ _)))) hgl'.out, hcv.out _ _ _ _ _ H (.there (.here _ _)), hcv.out _ _ _ _ _ H (.here _ _)⟩
          clear hK K
          ((try simp only [Act.put]); (try simp only [List.setIfInBounds_toArray]); (try simp only [List.set_cons_succ]); (try simp only [List.set_cons_zero]))
          refine callL (i := 43) rfl (by as_aux_lemma => kernel_rfl) (fun K hK => ?_)
          rw [if_pos (by rfl)]
          go_simp
          refine (f43.out _ H).mono ?_
          rintro e w15 ⟨rfl, H15⟩
          have H' := H15
          clear H hHeld
          clear H15
          have H := H'
          clear H'
          refine hK.out _ _ ?_ (fun hHeld => ?_)
          · exact ⟨H.cell (b := Y) (o := 0) (.there (.there (.here _ _))) rfl, H.cell (b := Y) (o := 1) (.there (.there (.here _ _))) rfl, H.cell (b := Y) (o := 2) (.there (.there (.here _ _))) rfl, H.cell (b := Y) (o := 3) (.there (.there (.here _ _))) rfl, H.cell (b := Y) (o := 4) (.there (.there (.here _ _))) rfl, H.cell (b := Y) (o := 5) (.there (.there (.here _ _))) rfl, H.cell (b := Y) (o := 6) (.there (.there (.here _ _))) rfl, H.cell (b := Y) (o := 7) (.there (.there (.here _ _))) rfl, H.cell (b := Y) (o := 8) (.there (.there (.here _ _))) rfl, H.cell (b := X) (o := 0) (.there (.there (.there (.there (.there (.here _ _)))))) rfl, H.cell (b := X) (o := 1) (.there (.there (.there (.there (.there (.here _ _)))))) rfl, H.cell (b := X) (o := 2) (.there (.there (.there (.there (.there (.here _ _)))))) rfl, H.cell (b := X) (o := 3) (.there (.there (.there (.there (.there (.here _ _)))))) rfl, H.cell (b := X) (o := 4) (.there (.there (.there (.there (.there (.here _ _)))))) rfl, H.cell (b := X) (o := 5) (.there (.there (.there (.there (.there (.here _ _)))))) rfl, H.cell (b := X) (o := 6) (.there (.there (.there (.there (.there (.here _ _)))))) rfl, H.cell (b := X) (o := 7) (.there (.there (.there (.there (.there (.here _ _)))))) rfl, H.cell (b := X) (o := 8) (.there (.there (.there (.there (.there (.here _ _)))))) rfl, H.cell (b := (X + 1)) (o := 0) (.there (.there (.there (.there (.here _ _))))) rfl, H.cell (b := (X + 1)) (o := 1) (.there (.there (.there (.there (.here _ _))))) rfl, H.cell (b := (X + 1)) (o := 2) (.there (.there (.there (.there (.here _ _))))) rfl, H.cell (b := (X + 1)) (o := 3) (.there (.there (.there (.there (.here _ _))))) rfl, H.cell (b := (X + 1)) (o := 4) (.there (.there (.there (.there (.here _ _))))) rfl, H.cell (b := (X + 1)) (o := 5) (.there (.there (.there (.there (.here _ _))))) rfl, H.cell (b := (X + 1)) (o := 6) (.there (.there (.there (.there (.here _ _))))) rfl, H.cell (b := (X + 1)) (o := 7) (.there (.there (.there (.there (.here _ _))))) rfl, H.cell (b := (X + 1)) (o := 8) (.there (.there (.there (.there (.here _ _))))) rfl, own7 H (.there (.there (.there (.here _ _)))) hgl'.out, hcv.out _ _ _ _ _ H (.there (.here _ _)), hcv.out _ _ _ _ _ H (.here _ _)⟩
          clear hK K
          ((try simp only [Act.put]); (try simp only [List.setIfInBounds_toArray]); (try simp only [List.set_cons_succ]); (try simp only [List.set_cons_zero]))
          refine takeL (i := 44) rfl (by as_aux_lemma => kernel_rfl) (by as_aux_lemma => kernel_rfl) (by as_aux_lemma => kernel_rfl) (fun _ _ _ _ h => h) hHeld ?_ (Or.inl ⟨by rfl, ?_⟩) ?_
          rotate_left
          · intro W hW
            (try dsimp only at hW)
            first | (go_simp; done) | (go_simp; with_reducible rfl)
          ((try simp only [Act.put]); (try simp only [List.setIfInBounds_toArray]); (try simp only [List.set_cons_succ]); (try simp only [List.set_cons_zero]))
          refine takeL (i := 45) rfl (by as_aux_lemma => kernel_rfl) (by as_aux_lemma => kernel_rfl) (by as_aux_lemma => kernel_rfl) (fun _ _ _ _ h => h) hHeld ?_ (Or.inl ⟨by rfl, ?_⟩) ?_
          rotate_left
          · intro W hW
            (try dsimp only at hW)
            first | (go_simp; done) | (go_simp; with_reducible rfl)
          ((try simp only [Act.put]); (try simp only [List.setIfInBounds_toArray]); (try simp only [List.set_cons_succ]); (try simp only [List.set_cons_zero]))
          refine takeL (i := 46) rfl (by as_aux_lemma => kernel_rfl) (by as_aux_lemma => kernel_rfl) (by as_aux_lemma => kernel_rfl) (fun _ _ _ _ h => h) hHeld ?_ (Or.inl ⟨by rfl, ?_⟩) ?_
          rotate_left
          · intro W hW
            (try dsimp only at hW)
            first | (go_simp; done) | (go_simp; with_reducible rfl)
          ((try simp only [Act.put]); (try simp only [List.setIfInBounds_toArray]); (try simp only [List.set_cons_succ]); (try simp only [List.set_cons_zero]))
          refine takeL (i := 47) rfl (by as_aux_lemma => kernel_rfl) (by as_aux_lemma => kernel_rfl) (by as_aux_lemma => kernel_rfl) (fun _ _ _ _ h => h) hHeld ?_ (Or.inl ⟨by rfl, ?_⟩) ?_
          rotate_left
          · intro W hW
            (try dsimp only at hW)
            first | (go_simp; done) | (go_simp; with_reducible rfl)
          ((try simp only [Act.put]); (try simp only [List.setIfInBounds_toArray]); (try simp only [List.set_cons_succ]); (try simp only [List.set_cons_zero]))
          as_aux_lemma =>
            refine takeL (i := 48) rfl (by as_aux_lemma => kernel_rfl) (by as_aux_lemma => kernel_rfl) (by as_aux_lemma => kernel_rfl) (fun _ _ _ _ h => h) hHeld ?_ (Or.inl ⟨by rfl, ?_⟩) ?_
            rotate_left
            · intro W hW
              (try dsimp only at hW)
              first | (go_simp; done) | (go_simp; with_reducible rfl)
            ((try simp only [Act.put]); (try simp only [List.setIfInBounds_toArray]); (try simp only [List.set_cons_succ]); (try simp only [List.set_cons_zero]))
            refine callL (i := 49) rfl (by as_aux_lemma => kernel_rfl) (fun K hK => ?_)
            rw [if_pos (by rfl)]
            go_simp
            refine (f49.out _ H).mono ?_
            rintro e w16 ⟨rfl, H16⟩
            have H' := H16
            clear H hHeld
            clear H16
            have H := H'
            clear H'
            refine hK.out _ _ ?_ (fun hHeld => ?_)
            · exact ⟨H.cell (b := Y) (o := 0) (.there (.there (.here _ _))) rfl, H.cell (b := Y) (o := 1) (.there (.there (.here _ _))) rfl, H.cell (b := Y) (o := 2) (.there (.there (.here _ _))) rfl, H.cell (b := Y) (o := 3) (.there (.there (.here _ _))) rfl, H.cell (b := Y) (o := 4) (.there (.there (.here _ _))) rfl, H.cell (b := Y) (o := 5) (.there (.there (.here _ _))) rfl, H.cell (b := Y) (o := 6) (.there (.there (.here _ _))) rfl, H.cell (b := Y) (o := 7) (.there (.there (.here _ _))) rfl, H.cell (b := Y) (o := 8) (.there (.there (.here _ _))) rfl, H.cell (b := X) (o := 0) (.there (.there (.there (.there (.there (.here _ _)))))) rfl, H.cell (b := X) (o := 1) (.there (.there (.there (.there (.there (.here _ _)))))) rfl, H.cell (b := X) (o := 2) (.there (.there (.there (.there (.there (.here _ _)))))) rfl, H.cell (b := X) (o := 3) (.there (.there (.there (.there (.there (.here _ _)))))) rfl, H.cell (b := X) (o := 4) (.there (.there (.there (.there (.there (.here _ _)))))) rfl, H.cell (b := X) (o := 5) (.there (.there (.there (.there (.there (.here _ _)))))) rfl, H.cell (b := X) (o := 6) (.there (.there (.there (.there (.there (.here _ _)))))) rfl, H.cell (b := X) (o := 7) (.there (.there (.there (.there (.there (.here _ _)))))) rfl, H.cell (b := X) (o := 8) (.there (.there (.there (.there (.there (.here _ _)))))) rfl, H.cell (b := (X + 1)) (o := 0) (.there (.there (.there (.there (.here _ _))))) rfl, H.cell (b := (X + 1)) (o := 1) (.there (.there (.there (.there (.here _ _))))) rfl, H.cell (b := (X + 1)) (o := 2) (.there (.there (.there (.there (.here _ _))))) rfl, H.cell (b := (X + 1)) (o := 3) (.there (.there (.there (.there (.here _ _))))) rfl, H.cell (b := (X + 1)) (o := 4) (.there (.there (.there (.there (.here _ _))))) rfl, H.cell (b := (X + 1)) (o := 5) (.there (.there (.there (.there (.here _ _))))) rfl, H.cell (b := (X + 1)) (o := 6) (.there (.there (.there (.there (.here _ _))))) rfl, H.cell (b := (X + 1)) (o := 7) (.there (.there (.there (.there (.here _ _))))) rfl, H.cell (b := (X + 1)) (o := 8) (.there (.there (.there (.there (.here _ _))))) rfl, own7 H (.there (.there (.there (.here _ _)))) hgl'.out, hcv.out _ _ _ _ _ H (.there (.here _ _)), hcv.out _ _ _ _ _ H (.here _ _)⟩
            clear hK K
            ((try simp only [Act.put]); (try simp only [List.setIfInBounds_toArray]); (try simp only [List.set_cons_succ]); (try simp only [List.set_cons_zero]))
            refine takeL (i := 50) rfl (by as_aux_lemma => kernel_rfl) (by as_aux_lemma => kernel_rfl) (by as_aux_lemma => kernel_rfl) (fun _ _ _ _ h => h) hHeld ?_ (Or.inl ⟨by rfl, ?_⟩) ?_
            rotate_left
            · intro W hW
              (try dsimp only at hW)
              first | (go_simp; done) | (go_simp; with_reducible rfl)
            ((try simp only [Act.put]); (try simp only [List.setIfInBounds_toArray]); (try simp only [List.set_cons_succ]); (try simp only [List.set_cons_zero]))
            refine takeL (i := 51) rfl (by as_aux_lemma => kernel_rfl) (by as_aux_lemma => kernel_rfl) (by as_aux_lemma => kernel_rfl) (fun _ _ _ _ h => h) hHeld ?_ (Or.inl ⟨by rfl, ?_⟩) ?_
            rotate_left
            · intro W hW
              (try dsimp only at hW)
              first | (go_simp; done) | (go_simp; with_reducible rfl)
            ((try simp only [Act.put]); (try simp only [List.setIfInBounds_toArray]); (try simp only [List.set_cons_succ]); (try simp only [List.set_cons_zero]))
            refine takeL (i := 52) rfl (by as_aux_lemma => kernel_rfl) (by as_aux_lemma => kernel_rfl) (by as_aux_lemma => kernel_rfl) (fun _ _ _ _ h => h) hHeld ?_ (Or.inl ⟨by rfl, ?_⟩) ?_
            rotate_left
            · intro W hW
              (try dsimp only at hW)
              first | (go_simp; done) | (go_simp; with_reducible rfl)
            ((try simp only [Act.put]); (try simp only [List.setIfInBounds_toArray]); (try simp only [List.set_cons_succ]); (try simp only [List.set_cons_zero]))
            refine takeL (i := 53) rfl (by as_aux_lemma => kernel_rfl) (by as_aux_lemma => kernel_rfl) (by as_aux_lemma => kernel_rfl) (fun _ _ _ _ h => h) hHeld ?_ (Or.inl ⟨by rfl, ?_⟩) ?_
            rotate_left
            · intro W hW
              (try dsimp only at hW)
              first | (go_simp; done) | (go_simp; with_reducible rfl)
            ((try simp only [Act.put]); (try simp only [List.setIfInBounds_toArray]); (try simp only [List.set_cons_succ]); (try simp only [List.set_cons_zero]))
            refine takeL (i := 54) rfl (by as_aux_lemma => kernel_rfl) (by as_aux_lemma => kernel_rfl) (by as_aux_lemma => kernel_rfl) (fun _ _ _ _ h => h) hHeld ?_ (Or.inl ⟨by rfl, ?_⟩) ?_
            rotate_left
            · intro W hW
              (try dsimp only at hW)
              first | (go_simp; done) | (go_simp; with_reducible rfl)
            ((try simp only [Act.put]); (try simp only [List.setIfInBounds_toArray]); (try simp only [List.set_cons_succ]); (try simp only [List.set_cons_zero]))
            refine takeL (i := 55) rfl (by as_aux_lemma => kernel_rfl) (by as_aux_lemma => kernel_rfl) (by as_aux_lemma => kernel_rfl) (fun _ _ _ _ h => h) hHeld ?_ (Or.inl ⟨by rfl, ?_⟩) ?_
            rotate_left
            · intro W hW
              (try dsimp only at hW)
              first | (go_simp; done) | (go_simp; with_reducible rfl)
            ((try simp only [Act.put]); (try simp only [List.setIfInBounds_toArray]); (try simp only [List.set_cons_succ]); (try simp only [List.set_cons_zero]))
            refine takeL (i := 56) rfl (by as_aux_lemma => kernel_rfl) (by as_aux_lemma => kernel_rfl) (by as_aux_lemma => kernel_rfl) (fun _ _ _ _ h => h) hHeld ?_ (Or.inl ⟨by rfl, ?_⟩) ?_
            rotate_left
            · intro W hW
              (try dsimp only at hW)
              first | (go_simp; done) | (go_simp; with_reducible rfl)
            ((try simp only [Act.put]); (try simp only [List.setIfInBounds_toArray]); (try simp only [List.set_cons_succ]); (try simp only [List.set_cons_zero]))
            refine takeL (i := 57) rfl (by as_aux_lemma => kernel_rfl) (by as_aux_lemma => kernel_rfl) (by as_aux_lemma => kernel_rfl) (fun _ _ _ _ h => h) hHeld ?_ (Or.inl ⟨by rfl, ?_⟩) ?_
            rotate_left
            · intro W hW
              (try dsimp only at hW)
              first | (go_simp; done) | (go_simp; with_reducible rfl)
            ((try simp only [Act.put]); (try simp only [List.setIfInBounds_toArray]); (try simp only [List.set_cons_succ]); (try simp only [List.set_cons_zero]))
            refine takeL (i := 58) rfl (by as_aux_lemma => kernel_rfl) (by as_aux_lemma => kernel_rfl) (by as_aux_lemma => kernel_rfl) (fun _ _ _ _ h => h) hHeld ?_ (Or.inl ⟨by rfl, ?_⟩) ?_
            rotate_left
            · intro W hW
              (try dsimp only at hW)
              first | (go_simp; done) | (go_simp; with_reducible rfl)
            ((try simp only [Act.put]); (try simp only [List.setIfInBounds_toArray]); (try simp only [List.set_cons_succ]); (try simp only [List.set_cons_zero]))
            refine takeL (i := 59) rfl (by as_aux_lemma => kernel_rfl) (by as_aux_lemma => kernel_rfl) (by as_aux_lemma => kernel_rfl) (fun _ _ _ _ h => h) hHeld ?_ (Or.inl ⟨by rfl, ?_⟩) ?_
            rotate_left
            · intro W hW
              (try dsimp only at hW)
              first | (go_simp; done) | (go_simp; with_reducible rfl)
            ((try simp only [Act.put]); (try simp only [List.setIfInBounds_toArray]); (try simp only [List.set_cons_succ]); (try simp only [List.set_cons_zero]))
            as_aux_lemma =>
              refine takeL (i := 60) rfl (by as_aux_lemma => kernel_rfl) (by as_aux_lemma => kernel_rfl) (by as_aux_lemma => kernel_rfl) (fun _ _ _ _ h => h) hHeld ?_ (Or.inl ⟨by rfl, ?_⟩) ?_
              rotate_left
              · intro W hW
                (try dsimp only at hW)
                first | (go_simp; done) | (go_simp; with_reducible rfl)
              ((try simp only [Act.put]); (try simp only [List.setIfInBounds_toArray]); (try simp only [List.set_cons_succ]); (try simp only [List.set_cons_zero]))
              refine takeL (i := 61) rfl (by as_aux_lemma => kernel_rfl) (by as_aux_lemma => kernel_rfl) (by as_aux_lemma => kernel_rfl) (fun _ _ _ _ h => h) hHeld ?_ (Or.inl ⟨by rfl, ?_⟩) ?_
              rotate_left
              · intro W hW
                (try dsimp only at hW)
                first | (go_simp; done) | (go_simp; with_reducible rfl)
              ((try simp only [Act.put]); (try simp only [List.setIfInBounds_toArray]); (try simp only [List.set_cons_succ]); (try simp only [List.set_cons_zero]))
              refine takeL (i := 62) rfl (by as_aux_lemma => kernel_rfl) (by as_aux_lemma => kernel_rfl) (by as_aux_lemma => kernel_rfl) (fun _ _ _ _ h => h) hHeld ?_ (Or.inl ⟨by rfl, ?_⟩) ?_
              rotate_left
              · intro W hW
                (try dsimp only at hW)
                first | (go_simp; done) | (go_simp; with_reducible rfl)
              ((try simp only [Act.put]); (try simp only [List.setIfInBounds_toArray]); (try simp only [List.set_cons_succ]); (try simp only [List.set_cons_zero]))
              refine takeL (i := 63) rfl (by as_aux_lemma => kernel_rfl) (by as_aux_lemma => kernel_rfl) (by as_aux_lemma => kernel_rfl) (fun _ _ _ _ h => h) hHeld ?_ (Or.inl ⟨by rfl, ?_⟩) ?_
              rotate_left
              · intro W hW
                (try dsimp only at hW)
                first | (go_simp; done) | (go_simp; with_reducible rfl)
              ((try simp only [Act.put]); (try simp only [List.setIfInBounds_toArray]); (try simp only [List.set_cons_succ]); (try simp only [List.set_cons_zero]))
              refine takeL (i := 64) rfl (by as_aux_lemma => kernel_rfl) (by as_aux_lemma => kernel_rfl) (by as_aux_lemma => kernel_rfl) (fun _ _ _ _ h => h) hHeld ?_ (Or.inl ⟨by rfl, ?_⟩) ?_
              rotate_left
              · intro W hW
                (try dsimp only at hW)
                first | (go_simp; done) | (go_simp; with_reducible rfl)
              ((try simp only [Act.put]); (try simp only [List.setIfInBounds_toArray]); (try simp only [List.set_cons_succ]); (try simp only [List.set_cons_zero]))
              refine takeL (i := 65) rfl (by as_aux_lemma => kernel_rfl) (by as_aux_lemma => kernel_rfl) (by as_aux_lemma => kernel_rfl) (fun _ _ _ _ h => h) hHeld ?_ (Or.inl ⟨by rfl, ?_⟩) ?_
              rotate_left
              · intro W hW
                (try dsimp only at hW)
                first | (go_simp; done) | (go_simp; with_reducible rfl)
              ((try simp only [Act.put]); (try simp only [List.setIfInBounds_toArray]); (try simp only [List.set_cons_succ]); (try simp only [List.set_cons_zero]))
              refine takeL (i := 66) rfl (by as_aux_lemma => kernel_rfl) (by as_aux_lemma => kernel_rfl) (by as_aux_lemma => kernel_rfl) (fun _ _ _ _ h => h) hHeld ?_ (Or.inl ⟨by rfl, ?_⟩) ?_
              rotate_left
              · intro W hW
                (try dsimp only at hW)
                first | (go_simp; done) | (go_simp; with_reducible rfl)
              ((try simp only [Act.put]); (try simp only [List.setIfInBounds_toArray]); (try simp only [List.set_cons_succ]); (try simp only [List.set_cons_zero]))
              refine wpAnyH_done (by as_aux_lemma => kernel_rfl) ?_ _
              have hH := Lib.hid H
              clear H hHeld
              go_wp2_with fail
              go_ret
              exact ⟨rfl, hH.out.kp (.there (.there (.there (.there (.there (.there (.here _ _)))))))⟩
end Go.Proofs.YtilpkfgdlehmpaaDoor

/- portolanref04.bare answers whether an instruction holds nothing in fields that are no parts: for any instruction. -/
import Derived.Test.YtcknmcfomkbenaaHa
namespace Go.Proofs.Ytcknmcfomkbenaa.H
open Go.RowKit Go.Lib Go.Sort Go.Proofs.YtcknmcfomkbenaaW.PrintWords Go.Proofs.YtcknmcfomkbenaaW.PrintLast Go.Proofs.YtcknmcfomkbenaaW.PrintMore
section
variable {P : Program} {ops : Array Oper} {Q : Exit → Act → World → Prop}
theorem wpList_cut (l2 : List Oper) : ∀ (l1 : List Oper) (a : Act) (w : World), wpList P ops (Exit.then (wpList P ops Q l2) Q) l1 a w → wpList P ops Q (l1 ++ l2) a w
  | [], _, _, h => h
  | o :: l1, a, w, h => by
    have lets : LetsOut (Exit.then (wpList P ops Q l2) Q) → LetsOut Q := fun ⟨a, w, h⟩ => ⟨a, w, h⟩
    rw [List.cons_append]
    unfold wpList at h ⊢
    split
    · rename_i hw
      rw [if_pos hw] at h
      rcases h with h | h
      · refine .inl ?_
        unfold Oper.wp at h ⊢
        generalize (execOp a.eval o).run P w = r at h ⊢
        rcases r with ⟨n, w2⟩ | ⟨c, w2⟩
        · cases n with
          | value v => exact wpList_cut l2 l1 _ _ h
          | skip => exact wpList_cut l2 l1 _ _ h
          | defer d => exact wpList_cut l2 l1 _ _ h
          | enter f args =>
            refine Calls.mono h ?_
            intro e w3 h3
            cases e with
            | returned v => exact wpList_cut l2 l1 _ _ h3
            | panicked chain => exact h3
            | outgrown => exact lets h3
          | _ => first | exact h | (refine h.mono ?_; intro v w3 h3; exact wpList_cut l2 l1 _ _ h3)
        · first | exact h | (cases c <;> exact h)
      · exact .inr ⟨h.1, lets h.2⟩
    · rename_i hw
      rw [if_neg hw] at h
      exact wpList_cut l2 l1 _ _ h
theorem wpList_take (n : Nat) {l : List Oper} {a : Act} {w : World} (h : wpList P ops (Exit.then (wpList P ops Q (l.drop n)) Q) (l.take n) a w) : wpList P ops Q l a w := by
  have := wpList_cut (l.drop n) (l.take n) a w h
  rwa [List.take_append_drop] at this
end
def bareB (p : Int → Bool) (a1 a2 a3 a4 a5 : Int) (n6 : Nat) : Bool := ((a1 == 0 || p 68) && ((a2 == 0 || p 65) && ((a3 == 0 || p 66) && ((a4 == 0 || p 78 || p 110) && ((a5 == 0 || p 77) && ((n6 : Int) == 0 || p 76))))))
set_option linter.unusedSimpArgs false
set_option maxRecDepth 100000 in
set_option maxHeartbeats 40000000 in
theorem bare114 (p : Int → Bool) (a0 a1 a2 a3 a4 a5 : Int) (A6 : Option Addr) (n6 c6 : Nat) (w : World) (hH : ∀ c ∈ ([68, 65, 66, 78, 110, 77, 76] : List Int), ∀ (w1 : World), Calls Try.prog 102 #[.int .i64 a0, .int .u8 c] w1 fun e w' => e = .returned (.bool (p c)) ∧ Below w1.heap.size w1 w') :
    Calls Try.prog 114 #[.agg #[.int .i64 a0, .int .i64 a1, .int .i64 a2, .int .i64 a3, .int .i64 a4, .int .i64 a5, .slice A6 n6 c6]] w fun e w' => e = .returned (.bool (bareB p a1 a2 a3 a4 a5 n6)) ∧ Below w.heap.size w w' := by
  have HH := Aside0.mk hH
  clear hH
  go_enter Try.func114, Try.ntmps114
  go_upto_region 1 with (fail)
  have HB := Aside0.mk ((Below.refl w.heap.size w).alloc (Nat.le_refl _) (.cells #[.int .i64 a0, .int .i64 a1, .int .i64 a2, .int .i64 a3, .int .i64 a4, .int .i64 a5, .slice A6 n6 c6] 52))
  have BK := Aside0.mk (heap_alloc_new w (.cells #[.int .i64 a0, .int .i64 a1, .int .i64 a2, .int .i64 a3, .int .i64 a4, .int .i64 a5, .slice A6 n6 c6] 52))
  have HR : Aside0 (bareB p a1 a2 a3 a4 a5 n6 = ((a1 == 0 || p 68) && ((a2 == 0 || p 65) && ((a3 == 0 || p 66) && ((a4 == 0 || p 78 || p 110) && ((a5 == 0 || p 77) && ((n6 : Int) == 0 || p 76))))))) := ⟨rfl⟩
  generalize w.alloc (.cells #[.int .i64 a0, .int .i64 a1, .int .i64 a2, .int .i64 a3, .int .i64 a4, .int .i64 a5, .slice A6 n6 c6] 52) = w1 at HB BK
  have k0 : w1.cell? ⟨w.heap.size, 0, none⟩ = some (.int .i64 a0) := blk_cell BK.out 0
  have k1 : w1.cell? ⟨w.heap.size, 1, none⟩ = some (.int .i64 a1) := blk_cell BK.out 1
  have k2 : w1.cell? ⟨w.heap.size, 2, none⟩ = some (.int .i64 a2) := blk_cell BK.out 2
  have k3 : w1.cell? ⟨w.heap.size, 3, none⟩ = some (.int .i64 a3) := blk_cell BK.out 3
  have k4 : w1.cell? ⟨w.heap.size, 4, none⟩ = some (.int .i64 a4) := blk_cell BK.out 4
  have k5 : w1.cell? ⟨w.heap.size, 5, none⟩ = some (.int .i64 a5) := blk_cell BK.out 5
  have k6 : w1.cell? ⟨w.heap.size, 6, none⟩ = some (.slice A6 n6 c6) := blk_cell BK.out 6
  refine wp_region_list ?_
  refine wpList_take 8 ?_
  generalize hM1 : wpList Try.prog _ _ (List.drop 8 _) = M1
  have S1 : ∀ (u3 u4 u5 u6 u7 u8 u9 : Value) (b : Bool) (w1 : World), Below w.heap.size w w1 → w1.heap[w.heap.size]? = some (.cells #[.int .i64 a0, .int .i64 a1, .int .i64 a2, .int .i64 a3, .int .i64 a4, .int .i64 a5, .slice A6 n6 c6] 52 (0, 0)) → bareB p a1 a2 a3 a4 a5 n6 = (b && ((a2 == 0 || p 65) && ((a3 == 0 || p 66) && ((a4 == 0 || p 78 || p 110) && ((a5 == 0 || p 77) && ((n6 : Int) == 0 || p 76)))))) → M1 ⟨#[.agg #[.int .i64 a0, .int .i64 a1, .int .i64 a2, .int .i64 a3, .int .i64 a4, .int .i64 a5, .slice A6 n6 c6], .pointer (some ⟨w.heap.size, 0, none⟩), .bool false, u3, u4, u5, u6, u7, u8, u9, .bool b, undef, undef, undef, undef, undef, undef, undef, undef, undef, undef, undef, undef, undef, undef, undef, undef, undef, undef, undef, undef, undef, undef, undef, undef, undef, undef, undef, undef, undef, undef, undef, undef, undef, undef, undef, undef, undef, undef, undef, undef, undef, undef, undef, undef, undef, undef, undef, undef, undef, undef, undef, undef, undef, undef, undef, undef], []⟩ w1 := by
    intro u3 u4 u5 u6 u7 u8 u9 b w1 hb hbk hr
    rw [← hM1]
    clear hM1
    simp only [List.drop_succ_cons, List.drop_zero, List.append_eq, List.cons_append, List.nil_append]
    have HB := Aside0.mk hb
    have BK := Aside0.mk hbk
    have HR := Aside0.mk hr
    clear hb hbk hr
    have k0 : w1.cell? ⟨w.heap.size, 0, none⟩ = some (.int .i64 a0) := blk_cell BK.out 0
    have k1 : w1.cell? ⟨w.heap.size, 1, none⟩ = some (.int .i64 a1) := blk_cell BK.out 1
    have k2 : w1.cell? ⟨w.heap.size, 2, none⟩ = some (.int .i64 a2) := blk_cell BK.out 2
    have k3 : w1.cell? ⟨w.heap.size, 3, none⟩ = some (.int .i64 a3) := blk_cell BK.out 3
    have k4 : w1.cell? ⟨w.heap.size, 4, none⟩ = some (.int .i64 a4) := blk_cell BK.out 4
    have k5 : w1.cell? ⟨w.heap.size, 5, none⟩ = some (.int .i64 a5) := blk_cell BK.out 5
    have k6 : w1.cell? ⟨w.heap.size, 6, none⟩ = some (.slice A6 n6 c6) := blk_cell BK.out 6
    refine wpList_take 10 ?_
    generalize hM2 : wpList Try.prog _ _ (List.drop 10 _) = M2
    have S2 : ∀ (u3 u4 u5 u6 u7 u8 u9 u10 u11 u12 u13 u14 u15 u16 u17 u18 u19 : Value) (b : Bool) (w1 : World), Below w.heap.size w w1 → w1.heap[w.heap.size]? = some (.cells #[.int .i64 a0, .int .i64 a1, .int .i64 a2, .int .i64 a3, .int .i64 a4, .int .i64 a5, .slice A6 n6 c6] 52 (0, 0)) → bareB p a1 a2 a3 a4 a5 n6 = (b && ((a3 == 0 || p 66) && ((a4 == 0 || p 78 || p 110) && ((a5 == 0 || p 77) && ((n6 : Int) == 0 || p 76))))) → M2 ⟨#[.agg #[.int .i64 a0, .int .i64 a1, .int .i64 a2, .int .i64 a3, .int .i64 a4, .int .i64 a5, .slice A6 n6 c6], .pointer (some ⟨w.heap.size, 0, none⟩), .bool false, u3, u4, u5, u6, u7, u8, u9, u10, u11, u12, u13, u14, u15, u16, u17, u18, u19, .bool b, undef, undef, undef, undef, undef, undef, undef, undef, undef, undef, undef, undef, undef, undef, undef, undef, undef, undef, undef, undef, undef, undef, undef, undef, undef, undef, undef, undef, undef, undef, undef, undef, undef, undef, undef, undef, undef, undef, undef, undef, undef, undef, undef, undef, undef, undef], []⟩ w1 := by
      intro u3 u4 u5 u6 u7 u8 u9 u10 u11 u12 u13 u14 u15 u16 u17 u18 u19 b w1 hb hbk hr
      rw [← hM2]
      clear hM2
      simp only [List.drop_succ_cons, List.drop_zero, List.append_eq, List.cons_append, List.nil_append]
      have HB := Aside0.mk hb
      have BK := Aside0.mk hbk
      have HR := Aside0.mk hr
      clear hb hbk hr
      have k0 : w1.cell? ⟨w.heap.size, 0, none⟩ = some (.int .i64 a0) := blk_cell BK.out 0
      have k1 : w1.cell? ⟨w.heap.size, 1, none⟩ = some (.int .i64 a1) := blk_cell BK.out 1
      have k2 : w1.cell? ⟨w.heap.size, 2, none⟩ = some (.int .i64 a2) := blk_cell BK.out 2
      have k3 : w1.cell? ⟨w.heap.size, 3, none⟩ = some (.int .i64 a3) := blk_cell BK.out 3
      have k4 : w1.cell? ⟨w.heap.size, 4, none⟩ = some (.int .i64 a4) := blk_cell BK.out 4
      have k5 : w1.cell? ⟨w.heap.size, 5, none⟩ = some (.int .i64 a5) := blk_cell BK.out 5
      have k6 : w1.cell? ⟨w.heap.size, 6, none⟩ = some (.slice A6 n6 c6) := blk_cell BK.out 6
      refine wpList_take 10 ?_
      generalize hM3 : wpList Try.prog _ _ (List.drop 10 _) = M3
      have S3 : ∀ (u3 u4 u5 u6 u7 u8 u9 u10 u11 u12 u13 u14 u15 u16 u17 u18 u19 u20 u21 u22 u23 u24 u25 u26 u27 u28 u29 : Value) (b : Bool) (w1 : World), Below w.heap.size w w1 → w1.heap[w.heap.size]? = some (.cells #[.int .i64 a0, .int .i64 a1, .int .i64 a2, .int .i64 a3, .int .i64 a4, .int .i64 a5, .slice A6 n6 c6] 52 (0, 0)) → bareB p a1 a2 a3 a4 a5 n6 = (b && ((a4 == 0 || p 78 || p 110) && ((a5 == 0 || p 77) && ((n6 : Int) == 0 || p 76)))) → M3 ⟨#[.agg #[.int .i64 a0, .int .i64 a1, .int .i64 a2, .int .i64 a3, .int .i64 a4, .int .i64 a5, .slice A6 n6 c6], .pointer (some ⟨w.heap.size, 0, none⟩), .bool false, u3, u4, u5, u6, u7, u8, u9, u10, u11, u12, u13, u14, u15, u16, u17, u18, u19, u20, u21, u22, u23, u24, u25, u26, u27, u28, u29, .bool b, undef, undef, undef, undef, undef, undef, undef, undef, undef, undef, undef, undef, undef, undef, undef, undef, undef, undef, undef, undef, undef, undef, undef, undef, undef, undef, undef, undef, undef, undef, undef, undef, undef, undef, undef, undef], []⟩ w1 := by
        intro u3 u4 u5 u6 u7 u8 u9 u10 u11 u12 u13 u14 u15 u16 u17 u18 u19 u20 u21 u22 u23 u24 u25 u26 u27 u28 u29 b w1 hb hbk hr
        rw [← hM3]
        clear hM3
        simp only [List.drop_succ_cons, List.drop_zero, List.append_eq, List.cons_append, List.nil_append]
        have HB := Aside0.mk hb
        have BK := Aside0.mk hbk
        have HR := Aside0.mk hr
        clear hb hbk hr
        have k0 : w1.cell? ⟨w.heap.size, 0, none⟩ = some (.int .i64 a0) := blk_cell BK.out 0
        have k1 : w1.cell? ⟨w.heap.size, 1, none⟩ = some (.int .i64 a1) := blk_cell BK.out 1
        have k2 : w1.cell? ⟨w.heap.size, 2, none⟩ = some (.int .i64 a2) := blk_cell BK.out 2
        have k3 : w1.cell? ⟨w.heap.size, 3, none⟩ = some (.int .i64 a3) := blk_cell BK.out 3
        have k4 : w1.cell? ⟨w.heap.size, 4, none⟩ = some (.int .i64 a4) := blk_cell BK.out 4
        have k5 : w1.cell? ⟨w.heap.size, 5, none⟩ = some (.int .i64 a5) := blk_cell BK.out 5
        have k6 : w1.cell? ⟨w.heap.size, 6, none⟩ = some (.slice A6 n6 c6) := blk_cell BK.out 6
        refine wpList_take 15 ?_
        generalize hM4 : wpList Try.prog _ _ (List.drop 15 _) = M4
        have S4 : ∀ (u3 u4 u5 u6 u7 u8 u9 u10 u11 u12 u13 u14 u15 u16 u17 u18 u19 u20 u21 u22 u23 u24 u25 u26 u27 u28 u29 u30 u31 u32 u33 u34 u35 u36 u37 u38 u39 u40 u41 u42 u43 u44 : Value) (b : Bool) (w1 : World), Below w.heap.size w w1 → w1.heap[w.heap.size]? = some (.cells #[.int .i64 a0, .int .i64 a1, .int .i64 a2, .int .i64 a3, .int .i64 a4, .int .i64 a5, .slice A6 n6 c6] 52 (0, 0)) → bareB p a1 a2 a3 a4 a5 n6 = (b && ((a5 == 0 || p 77) && ((n6 : Int) == 0 || p 76))) → M4 ⟨#[.agg #[.int .i64 a0, .int .i64 a1, .int .i64 a2, .int .i64 a3, .int .i64 a4, .int .i64 a5, .slice A6 n6 c6], .pointer (some ⟨w.heap.size, 0, none⟩), .bool false, u3, u4, u5, u6, u7, u8, u9, u10, u11, u12, u13, u14, u15, u16, u17, u18, u19, u20, u21, u22, u23, u24, u25, u26, u27, u28, u29, u30, u31, u32, u33, u34, u35, u36, u37, u38, u39, u40, u41, u42, u43, u44, .bool b, undef, undef, undef, undef, undef, undef, undef, undef, undef, undef, undef, undef, undef, undef, undef, undef, undef, undef, undef, undef, undef], []⟩ w1 := by
          intro u3 u4 u5 u6 u7 u8 u9 u10 u11 u12 u13 u14 u15 u16 u17 u18 u19 u20 u21 u22 u23 u24 u25 u26 u27 u28 u29 u30 u31 u32 u33 u34 u35 u36 u37 u38 u39 u40 u41 u42 u43 u44 b w1 hb hbk hr
          rw [← hM4]
          clear hM4
          simp only [List.drop_succ_cons, List.drop_zero, List.append_eq, List.cons_append, List.nil_append]
          have HB := Aside0.mk hb
          have BK := Aside0.mk hbk
          have HR := Aside0.mk hr
          clear hb hbk hr
          have k0 : w1.cell? ⟨w.heap.size, 0, none⟩ = some (.int .i64 a0) := blk_cell BK.out 0
          have k1 : w1.cell? ⟨w.heap.size, 1, none⟩ = some (.int .i64 a1) := blk_cell BK.out 1
          have k2 : w1.cell? ⟨w.heap.size, 2, none⟩ = some (.int .i64 a2) := blk_cell BK.out 2
          have k3 : w1.cell? ⟨w.heap.size, 3, none⟩ = some (.int .i64 a3) := blk_cell BK.out 3
          have k4 : w1.cell? ⟨w.heap.size, 4, none⟩ = some (.int .i64 a4) := blk_cell BK.out 4
          have k5 : w1.cell? ⟨w.heap.size, 5, none⟩ = some (.int .i64 a5) := blk_cell BK.out 5
          have k6 : w1.cell? ⟨w.heap.size, 6, none⟩ = some (.slice A6 n6 c6) := blk_cell BK.out 6
          refine wpList_take 10 ?_
          generalize hM5 : wpList Try.prog _ _ (List.drop 10 _) = M5
          have S5 : ∀ (u3 u4 u5 u6 u7 u8 u9 u10 u11 u12 u13 u14 u15 u16 u17 u18 u19 u20 u21 u22 u23 u24 u25 u26 u27 u28 u29 u30 u31 u32 u33 u34 u35 u36 u37 u38 u39 u40 u41 u42 u43 u44 u45 u46 u47 u48 u49 u50 u51 u52 u53 u54 : Value) (b : Bool) (w1 : World), Below w.heap.size w w1 → w1.heap[w.heap.size]? = some (.cells #[.int .i64 a0, .int .i64 a1, .int .i64 a2, .int .i64 a3, .int .i64 a4, .int .i64 a5, .slice A6 n6 c6] 52 (0, 0)) → bareB p a1 a2 a3 a4 a5 n6 = (b && ((n6 : Int) == 0 || p 76)) → M5 ⟨#[.agg #[.int .i64 a0, .int .i64 a1, .int .i64 a2, .int .i64 a3, .int .i64 a4, .int .i64 a5, .slice A6 n6 c6], .pointer (some ⟨w.heap.size, 0, none⟩), .bool false, u3, u4, u5, u6, u7, u8, u9, u10, u11, u12, u13, u14, u15, u16, u17, u18, u19, u20, u21, u22, u23, u24, u25, u26, u27, u28, u29, u30, u31, u32, u33, u34, u35, u36, u37, u38, u39, u40, u41, u42, u43, u44, u45, u46, u47, u48, u49, u50, u51, u52, u53, u54, .bool b, undef, undef, undef, undef, undef, undef, undef, undef, undef, undef, undef], []⟩ w1 := by
            intro u3 u4 u5 u6 u7 u8 u9 u10 u11 u12 u13 u14 u15 u16 u17 u18 u19 u20 u21 u22 u23 u24 u25 u26 u27 u28 u29 u30 u31 u32 u33 u34 u35 u36 u37 u38 u39 u40 u41 u42 u43 u44 u45 u46 u47 u48 u49 u50 u51 u52 u53 u54 b w1 hb hbk hr
            rw [← hM5]
            clear hM5
            simp only [List.drop_succ_cons, List.drop_zero, List.append_eq, List.cons_append, List.nil_append]
            have HB := Aside0.mk hb
            have BK := Aside0.mk hbk
            have HR := Aside0.mk hr
            clear hb hbk hr
            have k0 : w1.cell? ⟨w.heap.size, 0, none⟩ = some (.int .i64 a0) := blk_cell BK.out 0
            have k1 : w1.cell? ⟨w.heap.size, 1, none⟩ = some (.int .i64 a1) := blk_cell BK.out 1
            have k2 : w1.cell? ⟨w.heap.size, 2, none⟩ = some (.int .i64 a2) := blk_cell BK.out 2
            have k3 : w1.cell? ⟨w.heap.size, 3, none⟩ = some (.int .i64 a3) := blk_cell BK.out 3
            have k4 : w1.cell? ⟨w.heap.size, 4, none⟩ = some (.int .i64 a4) := blk_cell BK.out 4
            have k5 : w1.cell? ⟨w.heap.size, 5, none⟩ = some (.int .i64 a5) := blk_cell BK.out 5
            have k6 : w1.cell? ⟨w.heap.size, 6, none⟩ = some (.slice A6 n6 c6) := blk_cell BK.out 6
            cases b
            · go_wp2_with fail
              go_ret; exact ⟨congrArg (fun q : Bool => Ending.returned (Value.bool q)) (by rw [HR.out]; rfl), HB.out⟩
            · skip
              cases e6 : ((n6 : Int) == 0)
              · go_wp2_with (first | (go_at_call 102; (with_reducible refine (HH.out 76 (by decide) _).mono ?_); rintro e w76 ⟨rfl, hb9⟩; have HBn := Aside0.mk (HB.out.trans (hb9.mono HB.out.size)); have BKn : Aside0 (w76.heap[w.heap.size]? = some (.cells #[.int .i64 a0, .int .i64 a1, .int .i64 a2, .int .i64 a3, .int .i64 a4, .int .i64 a5, .slice A6 n6 c6] 52 (0, 0))) := ⟨(hb9.block _ (blk_lt BK.out)).trans BK.out⟩; clear HB BK k0 k1 k2 k3 k4 k5 k6 hb9; have HB := HBn; have BK := BKn; clear HBn BKn; have k0 : w76.cell? ⟨w.heap.size, 0, none⟩ = some (.int .i64 a0) := blk_cell BK.out 0; have k1 : w76.cell? ⟨w.heap.size, 1, none⟩ = some (.int .i64 a1) := blk_cell BK.out 1; have k2 : w76.cell? ⟨w.heap.size, 2, none⟩ = some (.int .i64 a2) := blk_cell BK.out 2; have k3 : w76.cell? ⟨w.heap.size, 3, none⟩ = some (.int .i64 a3) := blk_cell BK.out 3; have k4 : w76.cell? ⟨w.heap.size, 4, none⟩ = some (.int .i64 a4) := blk_cell BK.out 4; have k5 : w76.cell? ⟨w.heap.size, 5, none⟩ = some (.int .i64 a5) := blk_cell BK.out 5; have k6 : w76.cell? ⟨w.heap.size, 6, none⟩ = some (.slice A6 n6 c6) := blk_cell BK.out 6; cases hp76 : p 76))
                all_goals (go_ret; exact ⟨congrArg (fun q : Bool => Ending.returned (Value.bool q)) (by rw [HR.out]; first | (simp only [e6, hp76, Bool.true_or, Bool.false_or, Bool.or_true, Bool.or_false, Bool.true_and, Bool.false_and]; done) | (simp only [e6, Bool.true_or, Bool.false_or, Bool.or_true, Bool.or_false, Bool.true_and, Bool.false_and]; done)), HB.out⟩)
              · go_wp2_with (first | (go_at_call 102; (with_reducible refine (HH.out 76 (by decide) _).mono ?_); rintro e w76 ⟨rfl, hb9⟩; have HBn := Aside0.mk (HB.out.trans (hb9.mono HB.out.size)); have BKn : Aside0 (w76.heap[w.heap.size]? = some (.cells #[.int .i64 a0, .int .i64 a1, .int .i64 a2, .int .i64 a3, .int .i64 a4, .int .i64 a5, .slice A6 n6 c6] 52 (0, 0))) := ⟨(hb9.block _ (blk_lt BK.out)).trans BK.out⟩; clear HB BK k0 k1 k2 k3 k4 k5 k6 hb9; have HB := HBn; have BK := BKn; clear HBn BKn; have k0 : w76.cell? ⟨w.heap.size, 0, none⟩ = some (.int .i64 a0) := blk_cell BK.out 0; have k1 : w76.cell? ⟨w.heap.size, 1, none⟩ = some (.int .i64 a1) := blk_cell BK.out 1; have k2 : w76.cell? ⟨w.heap.size, 2, none⟩ = some (.int .i64 a2) := blk_cell BK.out 2; have k3 : w76.cell? ⟨w.heap.size, 3, none⟩ = some (.int .i64 a3) := blk_cell BK.out 3; have k4 : w76.cell? ⟨w.heap.size, 4, none⟩ = some (.int .i64 a4) := blk_cell BK.out 4; have k5 : w76.cell? ⟨w.heap.size, 5, none⟩ = some (.int .i64 a5) := blk_cell BK.out 5; have k6 : w76.cell? ⟨w.heap.size, 6, none⟩ = some (.slice A6 n6 c6) := blk_cell BK.out 6; cases hp76 : p 76))
                all_goals (go_ret; exact ⟨congrArg (fun q : Bool => Ending.returned (Value.bool q)) (by rw [HR.out]; first | (simp only [e6, hp76, Bool.true_or, Bool.false_or, Bool.or_true, Bool.or_false, Bool.true_and, Bool.false_and]; done) | (simp only [e6, Bool.true_or, Bool.false_or, Bool.or_true, Bool.or_false, Bool.true_and, Bool.false_and]; done)), HB.out⟩)
          have S5 := Aside0.mk S5
          clear hM5
          simp only [List.take_succ_cons, List.take_zero, List.append_eq, List.cons_append, List.nil_append]
          cases b
          · go_wp2_with fail
            exact S5.out _ _ _ _ _ _ _ _ _ _ _ _ _ _ _ _ _ _ _ _ _ _ _ _ _ _ _ _ _ _ _ _ _ _ _ _ _ _ _ _ _ _ _ _ _ _ _ _ _ _ _ _ _ _ HB.out BK.out (by rw [HR.out]; rfl)
          · skip
            cases e5 : (a5 == 0)
            · go_wp2_with (first | (go_at_call 102; (with_reducible refine (HH.out 77 (by decide) _).mono ?_); rintro e w77 ⟨rfl, hb9⟩; have HBn := Aside0.mk (HB.out.trans (hb9.mono HB.out.size)); have BKn : Aside0 (w77.heap[w.heap.size]? = some (.cells #[.int .i64 a0, .int .i64 a1, .int .i64 a2, .int .i64 a3, .int .i64 a4, .int .i64 a5, .slice A6 n6 c6] 52 (0, 0))) := ⟨(hb9.block _ (blk_lt BK.out)).trans BK.out⟩; clear HB BK k0 k1 k2 k3 k4 k5 k6 hb9; have HB := HBn; have BK := BKn; clear HBn BKn; have k0 : w77.cell? ⟨w.heap.size, 0, none⟩ = some (.int .i64 a0) := blk_cell BK.out 0; have k1 : w77.cell? ⟨w.heap.size, 1, none⟩ = some (.int .i64 a1) := blk_cell BK.out 1; have k2 : w77.cell? ⟨w.heap.size, 2, none⟩ = some (.int .i64 a2) := blk_cell BK.out 2; have k3 : w77.cell? ⟨w.heap.size, 3, none⟩ = some (.int .i64 a3) := blk_cell BK.out 3; have k4 : w77.cell? ⟨w.heap.size, 4, none⟩ = some (.int .i64 a4) := blk_cell BK.out 4; have k5 : w77.cell? ⟨w.heap.size, 5, none⟩ = some (.int .i64 a5) := blk_cell BK.out 5; have k6 : w77.cell? ⟨w.heap.size, 6, none⟩ = some (.slice A6 n6 c6) := blk_cell BK.out 6; cases hp77 : p 77))
              all_goals (exact S5.out _ _ _ _ _ _ _ _ _ _ _ _ _ _ _ _ _ _ _ _ _ _ _ _ _ _ _ _ _ _ _ _ _ _ _ _ _ _ _ _ _ _ _ _ _ _ _ _ _ _ _ _ _ _ HB.out BK.out (by rw [HR.out]; first | (simp only [e5, hp77, Bool.true_or, Bool.false_or, Bool.or_true, Bool.or_false, Bool.true_and, Bool.false_and]; done) | (simp only [e5, Bool.true_or, Bool.false_or, Bool.or_true, Bool.or_false, Bool.true_and, Bool.false_and]; done)))
            · go_wp2_with (first | (go_at_call 102; (with_reducible refine (HH.out 77 (by decide) _).mono ?_); rintro e w77 ⟨rfl, hb9⟩; have HBn := Aside0.mk (HB.out.trans (hb9.mono HB.out.size)); have BKn : Aside0 (w77.heap[w.heap.size]? = some (.cells #[.int .i64 a0, .int .i64 a1, .int .i64 a2, .int .i64 a3, .int .i64 a4, .int .i64 a5, .slice A6 n6 c6] 52 (0, 0))) := ⟨(hb9.block _ (blk_lt BK.out)).trans BK.out⟩; clear HB BK k0 k1 k2 k3 k4 k5 k6 hb9; have HB := HBn; have BK := BKn; clear HBn BKn; have k0 : w77.cell? ⟨w.heap.size, 0, none⟩ = some (.int .i64 a0) := blk_cell BK.out 0; have k1 : w77.cell? ⟨w.heap.size, 1, none⟩ = some (.int .i64 a1) := blk_cell BK.out 1; have k2 : w77.cell? ⟨w.heap.size, 2, none⟩ = some (.int .i64 a2) := blk_cell BK.out 2; have k3 : w77.cell? ⟨w.heap.size, 3, none⟩ = some (.int .i64 a3) := blk_cell BK.out 3; have k4 : w77.cell? ⟨w.heap.size, 4, none⟩ = some (.int .i64 a4) := blk_cell BK.out 4; have k5 : w77.cell? ⟨w.heap.size, 5, none⟩ = some (.int .i64 a5) := blk_cell BK.out 5; have k6 : w77.cell? ⟨w.heap.size, 6, none⟩ = some (.slice A6 n6 c6) := blk_cell BK.out 6; cases hp77 : p 77))
              all_goals (exact S5.out _ _ _ _ _ _ _ _ _ _ _ _ _ _ _ _ _ _ _ _ _ _ _ _ _ _ _ _ _ _ _ _ _ _ _ _ _ _ _ _ _ _ _ _ _ _ _ _ _ _ _ _ _ _ HB.out BK.out (by rw [HR.out]; first | (simp only [e5, hp77, Bool.true_or, Bool.false_or, Bool.or_true, Bool.or_false, Bool.true_and, Bool.false_and]; done) | (simp only [e5, Bool.true_or, Bool.false_or, Bool.or_true, Bool.or_false, Bool.true_and, Bool.false_and]; done)))
        have S4 := Aside0.mk S4
        clear hM4
        simp only [List.take_succ_cons, List.take_zero, List.append_eq, List.cons_append, List.nil_append]
        cases b
        · go_wp2_with fail
          exact S4.out _ _ _ _ _ _ _ _ _ _ _ _ _ _ _ _ _ _ _ _ _ _ _ _ _ _ _ _ _ _ _ _ _ _ _ _ _ _ _ _ _ _ _ _ HB.out BK.out (by rw [HR.out]; rfl)
        · skip
          cases e4 : (a4 == 0)
          · go_wp2_with (first | (go_at_call 102; (with_reducible refine (HH.out 78 (by decide) _).mono ?_); rintro e w78 ⟨rfl, hb9⟩; have HBn := Aside0.mk (HB.out.trans (hb9.mono HB.out.size)); have BKn : Aside0 (w78.heap[w.heap.size]? = some (.cells #[.int .i64 a0, .int .i64 a1, .int .i64 a2, .int .i64 a3, .int .i64 a4, .int .i64 a5, .slice A6 n6 c6] 52 (0, 0))) := ⟨(hb9.block _ (blk_lt BK.out)).trans BK.out⟩; clear HB BK k0 k1 k2 k3 k4 k5 k6 hb9; have HB := HBn; have BK := BKn; clear HBn BKn; have k0 : w78.cell? ⟨w.heap.size, 0, none⟩ = some (.int .i64 a0) := blk_cell BK.out 0; have k1 : w78.cell? ⟨w.heap.size, 1, none⟩ = some (.int .i64 a1) := blk_cell BK.out 1; have k2 : w78.cell? ⟨w.heap.size, 2, none⟩ = some (.int .i64 a2) := blk_cell BK.out 2; have k3 : w78.cell? ⟨w.heap.size, 3, none⟩ = some (.int .i64 a3) := blk_cell BK.out 3; have k4 : w78.cell? ⟨w.heap.size, 4, none⟩ = some (.int .i64 a4) := blk_cell BK.out 4; have k5 : w78.cell? ⟨w.heap.size, 5, none⟩ = some (.int .i64 a5) := blk_cell BK.out 5; have k6 : w78.cell? ⟨w.heap.size, 6, none⟩ = some (.slice A6 n6 c6) := blk_cell BK.out 6; cases hp78 : p 78) | (go_at_call 102; (with_reducible refine (HH.out 110 (by decide) _).mono ?_); rintro e w110 ⟨rfl, hb9⟩; have HBn := Aside0.mk (HB.out.trans (hb9.mono HB.out.size)); have BKn : Aside0 (w110.heap[w.heap.size]? = some (.cells #[.int .i64 a0, .int .i64 a1, .int .i64 a2, .int .i64 a3, .int .i64 a4, .int .i64 a5, .slice A6 n6 c6] 52 (0, 0))) := ⟨(hb9.block _ (blk_lt BK.out)).trans BK.out⟩; clear HB BK k0 k1 k2 k3 k4 k5 k6 hb9; have HB := HBn; have BK := BKn; clear HBn BKn; have k0 : w110.cell? ⟨w.heap.size, 0, none⟩ = some (.int .i64 a0) := blk_cell BK.out 0; have k1 : w110.cell? ⟨w.heap.size, 1, none⟩ = some (.int .i64 a1) := blk_cell BK.out 1; have k2 : w110.cell? ⟨w.heap.size, 2, none⟩ = some (.int .i64 a2) := blk_cell BK.out 2; have k3 : w110.cell? ⟨w.heap.size, 3, none⟩ = some (.int .i64 a3) := blk_cell BK.out 3; have k4 : w110.cell? ⟨w.heap.size, 4, none⟩ = some (.int .i64 a4) := blk_cell BK.out 4; have k5 : w110.cell? ⟨w.heap.size, 5, none⟩ = some (.int .i64 a5) := blk_cell BK.out 5; have k6 : w110.cell? ⟨w.heap.size, 6, none⟩ = some (.slice A6 n6 c6) := blk_cell BK.out 6; cases hp110 : p 110))
            all_goals (exact S4.out _ _ _ _ _ _ _ _ _ _ _ _ _ _ _ _ _ _ _ _ _ _ _ _ _ _ _ _ _ _ _ _ _ _ _ _ _ _ _ _ _ _ _ _ HB.out BK.out (by rw [HR.out]; first | (simp only [e4, hp78, hp110, Bool.true_or, Bool.false_or, Bool.or_true, Bool.or_false, Bool.true_and, Bool.false_and]; done) | (simp only [e4, hp78, Bool.true_or, Bool.false_or, Bool.or_true, Bool.or_false, Bool.true_and, Bool.false_and]; done) | (simp only [e4, Bool.true_or, Bool.false_or, Bool.or_true, Bool.or_false, Bool.true_and, Bool.false_and]; done)))
          · go_wp2_with (first | (go_at_call 102; (with_reducible refine (HH.out 78 (by decide) _).mono ?_); rintro e w78 ⟨rfl, hb9⟩; have HBn := Aside0.mk (HB.out.trans (hb9.mono HB.out.size)); have BKn : Aside0 (w78.heap[w.heap.size]? = some (.cells #[.int .i64 a0, .int .i64 a1, .int .i64 a2, .int .i64 a3, .int .i64 a4, .int .i64 a5, .slice A6 n6 c6] 52 (0, 0))) := ⟨(hb9.block _ (blk_lt BK.out)).trans BK.out⟩; clear HB BK k0 k1 k2 k3 k4 k5 k6 hb9; have HB := HBn; have BK := BKn; clear HBn BKn; have k0 : w78.cell? ⟨w.heap.size, 0, none⟩ = some (.int .i64 a0) := blk_cell BK.out 0; have k1 : w78.cell? ⟨w.heap.size, 1, none⟩ = some (.int .i64 a1) := blk_cell BK.out 1; have k2 : w78.cell? ⟨w.heap.size, 2, none⟩ = some (.int .i64 a2) := blk_cell BK.out 2; have k3 : w78.cell? ⟨w.heap.size, 3, none⟩ = some (.int .i64 a3) := blk_cell BK.out 3; have k4 : w78.cell? ⟨w.heap.size, 4, none⟩ = some (.int .i64 a4) := blk_cell BK.out 4; have k5 : w78.cell? ⟨w.heap.size, 5, none⟩ = some (.int .i64 a5) := blk_cell BK.out 5; have k6 : w78.cell? ⟨w.heap.size, 6, none⟩ = some (.slice A6 n6 c6) := blk_cell BK.out 6; cases hp78 : p 78) | (go_at_call 102; (with_reducible refine (HH.out 110 (by decide) _).mono ?_); rintro e w110 ⟨rfl, hb9⟩; have HBn := Aside0.mk (HB.out.trans (hb9.mono HB.out.size)); have BKn : Aside0 (w110.heap[w.heap.size]? = some (.cells #[.int .i64 a0, .int .i64 a1, .int .i64 a2, .int .i64 a3, .int .i64 a4, .int .i64 a5, .slice A6 n6 c6] 52 (0, 0))) := ⟨(hb9.block _ (blk_lt BK.out)).trans BK.out⟩; clear HB BK k0 k1 k2 k3 k4 k5 k6 hb9; have HB := HBn; have BK := BKn; clear HBn BKn; have k0 : w110.cell? ⟨w.heap.size, 0, none⟩ = some (.int .i64 a0) := blk_cell BK.out 0; have k1 : w110.cell? ⟨w.heap.size, 1, none⟩ = some (.int .i64 a1) := blk_cell BK.out 1; have k2 : w110.cell? ⟨w.heap.size, 2, none⟩ = some (.int .i64 a2) := blk_cell BK.out 2; have k3 : w110.cell? ⟨w.heap.size, 3, none⟩ = some (.int .i64 a3) := blk_cell BK.out 3; have k4 : w110.cell? ⟨w.heap.size, 4, none⟩ = some (.int .i64 a4) := blk_cell BK.out 4; have k5 : w110.cell? ⟨w.heap.size, 5, none⟩ = some (.int .i64 a5) := blk_cell BK.out 5; have k6 : w110.cell? ⟨w.heap.size, 6, none⟩ = some (.slice A6 n6 c6) := blk_cell BK.out 6; cases hp110 : p 110))
            all_goals (exact S4.out _ _ _ _ _ _ _ _ _ _ _ _ _ _ _ _ _ _ _ _ _ _ _ _ _ _ _ _ _ _ _ _ _ _ _ _ _ _ _ _ _ _ _ _ HB.out BK.out (by rw [HR.out]; first | (simp only [e4, hp78, hp110, Bool.true_or, Bool.false_or, Bool.or_true, Bool.or_false, Bool.true_and, Bool.false_and]; done) | (simp only [e4, hp78, Bool.true_or, Bool.false_or, Bool.or_true, Bool.or_false, Bool.true_and, Bool.false_and]; done) | (simp only [e4, Bool.true_or, Bool.false_or, Bool.or_true, Bool.or_false, Bool.true_and, Bool.false_and]; done)))
      have S3 := Aside0.mk S3
      clear hM3
      simp only [List.take_succ_cons, List.take_zero, List.append_eq, List.cons_append, List.nil_append]
      cases b
      · go_wp2_with fail
        exact S3.out _ _ _ _ _ _ _ _ _ _ _ _ _ _ _ _ _ _ _ _ _ _ _ _ _ _ _ _ _ HB.out BK.out (by rw [HR.out]; rfl)
      · skip
        cases e3 : (a3 == 0)
        · go_wp2_with (first | (go_at_call 102; (with_reducible refine (HH.out 66 (by decide) _).mono ?_); rintro e w66 ⟨rfl, hb9⟩; have HBn := Aside0.mk (HB.out.trans (hb9.mono HB.out.size)); have BKn : Aside0 (w66.heap[w.heap.size]? = some (.cells #[.int .i64 a0, .int .i64 a1, .int .i64 a2, .int .i64 a3, .int .i64 a4, .int .i64 a5, .slice A6 n6 c6] 52 (0, 0))) := ⟨(hb9.block _ (blk_lt BK.out)).trans BK.out⟩; clear HB BK k0 k1 k2 k3 k4 k5 k6 hb9; have HB := HBn; have BK := BKn; clear HBn BKn; have k0 : w66.cell? ⟨w.heap.size, 0, none⟩ = some (.int .i64 a0) := blk_cell BK.out 0; have k1 : w66.cell? ⟨w.heap.size, 1, none⟩ = some (.int .i64 a1) := blk_cell BK.out 1; have k2 : w66.cell? ⟨w.heap.size, 2, none⟩ = some (.int .i64 a2) := blk_cell BK.out 2; have k3 : w66.cell? ⟨w.heap.size, 3, none⟩ = some (.int .i64 a3) := blk_cell BK.out 3; have k4 : w66.cell? ⟨w.heap.size, 4, none⟩ = some (.int .i64 a4) := blk_cell BK.out 4; have k5 : w66.cell? ⟨w.heap.size, 5, none⟩ = some (.int .i64 a5) := blk_cell BK.out 5; have k6 : w66.cell? ⟨w.heap.size, 6, none⟩ = some (.slice A6 n6 c6) := blk_cell BK.out 6; cases hp66 : p 66))
          all_goals (exact S3.out _ _ _ _ _ _ _ _ _ _ _ _ _ _ _ _ _ _ _ _ _ _ _ _ _ _ _ _ _ HB.out BK.out (by rw [HR.out]; first | (simp only [e3, hp66, Bool.true_or, Bool.false_or, Bool.or_true, Bool.or_false, Bool.true_and, Bool.false_and]; done) | (simp only [e3, Bool.true_or, Bool.false_or, Bool.or_true, Bool.or_false, Bool.true_and, Bool.false_and]; done)))
        · go_wp2_with (first | (go_at_call 102; (with_reducible refine (HH.out 66 (by decide) _).mono ?_); rintro e w66 ⟨rfl, hb9⟩; have HBn := Aside0.mk (HB.out.trans (hb9.mono HB.out.size)); have BKn : Aside0 (w66.heap[w.heap.size]? = some (.cells #[.int .i64 a0, .int .i64 a1, .int .i64 a2, .int .i64 a3, .int .i64 a4, .int .i64 a5, .slice A6 n6 c6] 52 (0, 0))) := ⟨(hb9.block _ (blk_lt BK.out)).trans BK.out⟩; clear HB BK k0 k1 k2 k3 k4 k5 k6 hb9; have HB := HBn; have BK := BKn; clear HBn BKn; have k0 : w66.cell? ⟨w.heap.size, 0, none⟩ = some (.int .i64 a0) := blk_cell BK.out 0; have k1 : w66.cell? ⟨w.heap.size, 1, none⟩ = some (.int .i64 a1) := blk_cell BK.out 1; have k2 : w66.cell? ⟨w.heap.size, 2, none⟩ = some (.int .i64 a2) := blk_cell BK.out 2; have k3 : w66.cell? ⟨w.heap.size, 3, none⟩ = some (.int .i64 a3) := blk_cell BK.out 3; have k4 : w66.cell? ⟨w.heap.size, 4, none⟩ = some (.int .i64 a4) := blk_cell BK.out 4; have k5 : w66.cell? ⟨w.heap.size, 5, none⟩ = some (.int .i64 a5) := blk_cell BK.out 5; have k6 : w66.cell? ⟨w.heap.size, 6, none⟩ = some (.slice A6 n6 c6) := blk_cell BK.out 6; cases hp66 : p 66))
          all_goals (exact S3.out _ _ _ _ _ _ _ _ _ _ _ _ _ _ _ _ _ _ _ _ _ _ _ _ _ _ _ _ _ HB.out BK.out (by rw [HR.out]; first | (simp only [e3, hp66, Bool.true_or, Bool.false_or, Bool.or_true, Bool.or_false, Bool.true_and, Bool.false_and]; done) | (simp only [e3, Bool.true_or, Bool.false_or, Bool.or_true, Bool.or_false, Bool.true_and, Bool.false_and]; done)))
    have S2 := Aside0.mk S2
    clear hM2
    simp only [List.take_succ_cons, List.take_zero, List.append_eq, List.cons_append, List.nil_append]
    cases b
    · go_wp2_with fail
      exact S2.out _ _ _ _ _ _ _ _ _ _ _ _ _ _ _ _ _ _ _ HB.out BK.out (by rw [HR.out]; rfl)
    · skip
      cases e2 : (a2 == 0)
      · go_wp2_with (first | (go_at_call 102; (with_reducible refine (HH.out 65 (by decide) _).mono ?_); rintro e w65 ⟨rfl, hb9⟩; have HBn := Aside0.mk (HB.out.trans (hb9.mono HB.out.size)); have BKn : Aside0 (w65.heap[w.heap.size]? = some (.cells #[.int .i64 a0, .int .i64 a1, .int .i64 a2, .int .i64 a3, .int .i64 a4, .int .i64 a5, .slice A6 n6 c6] 52 (0, 0))) := ⟨(hb9.block _ (blk_lt BK.out)).trans BK.out⟩; clear HB BK k0 k1 k2 k3 k4 k5 k6 hb9; have HB := HBn; have BK := BKn; clear HBn BKn; have k0 : w65.cell? ⟨w.heap.size, 0, none⟩ = some (.int .i64 a0) := blk_cell BK.out 0; have k1 : w65.cell? ⟨w.heap.size, 1, none⟩ = some (.int .i64 a1) := blk_cell BK.out 1; have k2 : w65.cell? ⟨w.heap.size, 2, none⟩ = some (.int .i64 a2) := blk_cell BK.out 2; have k3 : w65.cell? ⟨w.heap.size, 3, none⟩ = some (.int .i64 a3) := blk_cell BK.out 3; have k4 : w65.cell? ⟨w.heap.size, 4, none⟩ = some (.int .i64 a4) := blk_cell BK.out 4; have k5 : w65.cell? ⟨w.heap.size, 5, none⟩ = some (.int .i64 a5) := blk_cell BK.out 5; have k6 : w65.cell? ⟨w.heap.size, 6, none⟩ = some (.slice A6 n6 c6) := blk_cell BK.out 6; cases hp65 : p 65))
        all_goals (exact S2.out _ _ _ _ _ _ _ _ _ _ _ _ _ _ _ _ _ _ _ HB.out BK.out (by rw [HR.out]; first | (simp only [e2, hp65, Bool.true_or, Bool.false_or, Bool.or_true, Bool.or_false, Bool.true_and, Bool.false_and]; done) | (simp only [e2, Bool.true_or, Bool.false_or, Bool.or_true, Bool.or_false, Bool.true_and, Bool.false_and]; done)))
      · go_wp2_with (first | (go_at_call 102; (with_reducible refine (HH.out 65 (by decide) _).mono ?_); rintro e w65 ⟨rfl, hb9⟩; have HBn := Aside0.mk (HB.out.trans (hb9.mono HB.out.size)); have BKn : Aside0 (w65.heap[w.heap.size]? = some (.cells #[.int .i64 a0, .int .i64 a1, .int .i64 a2, .int .i64 a3, .int .i64 a4, .int .i64 a5, .slice A6 n6 c6] 52 (0, 0))) := ⟨(hb9.block _ (blk_lt BK.out)).trans BK.out⟩; clear HB BK k0 k1 k2 k3 k4 k5 k6 hb9; have HB := HBn; have BK := BKn; clear HBn BKn; have k0 : w65.cell? ⟨w.heap.size, 0, none⟩ = some (.int .i64 a0) := blk_cell BK.out 0; have k1 : w65.cell? ⟨w.heap.size, 1, none⟩ = some (.int .i64 a1) := blk_cell BK.out 1; have k2 : w65.cell? ⟨w.heap.size, 2, none⟩ = some (.int .i64 a2) := blk_cell BK.out 2; have k3 : w65.cell? ⟨w.heap.size, 3, none⟩ = some (.int .i64 a3) := blk_cell BK.out 3; have k4 : w65.cell? ⟨w.heap.size, 4, none⟩ = some (.int .i64 a4) := blk_cell BK.out 4; have k5 : w65.cell? ⟨w.heap.size, 5, none⟩ = some (.int .i64 a5) := blk_cell BK.out 5; have k6 : w65.cell? ⟨w.heap.size, 6, none⟩ = some (.slice A6 n6 c6) := blk_cell BK.out 6; cases hp65 : p 65))
        all_goals (exact S2.out _ _ _ _ _ _ _ _ _ _ _ _ _ _ _ _ _ _ _ HB.out BK.out (by rw [HR.out]; first | (simp only [e2, hp65, Bool.true_or, Bool.false_or, Bool.or_true, Bool.or_false, Bool.true_and, Bool.false_and]; done) | (simp only [e2, Bool.true_or, Bool.false_or, Bool.or_true, Bool.or_false, Bool.true_and, Bool.false_and]; done)))
  have S1 := Aside0.mk S1
  clear hM1
  simp only [List.take_succ_cons, List.take_zero, List.append_eq, List.cons_append, List.nil_append]
  cases e1 : (a1 == 0)
  · go_wp2_with (first | (go_at_call 102; (with_reducible refine (HH.out 68 (by decide) _).mono ?_); rintro e w68 ⟨rfl, hb9⟩; have HBn := Aside0.mk (HB.out.trans (hb9.mono HB.out.size)); have BKn : Aside0 (w68.heap[w.heap.size]? = some (.cells #[.int .i64 a0, .int .i64 a1, .int .i64 a2, .int .i64 a3, .int .i64 a4, .int .i64 a5, .slice A6 n6 c6] 52 (0, 0))) := ⟨(hb9.block _ (blk_lt BK.out)).trans BK.out⟩; clear HB BK k0 k1 k2 k3 k4 k5 k6 hb9; have HB := HBn; have BK := BKn; clear HBn BKn; have k0 : w68.cell? ⟨w.heap.size, 0, none⟩ = some (.int .i64 a0) := blk_cell BK.out 0; have k1 : w68.cell? ⟨w.heap.size, 1, none⟩ = some (.int .i64 a1) := blk_cell BK.out 1; have k2 : w68.cell? ⟨w.heap.size, 2, none⟩ = some (.int .i64 a2) := blk_cell BK.out 2; have k3 : w68.cell? ⟨w.heap.size, 3, none⟩ = some (.int .i64 a3) := blk_cell BK.out 3; have k4 : w68.cell? ⟨w.heap.size, 4, none⟩ = some (.int .i64 a4) := blk_cell BK.out 4; have k5 : w68.cell? ⟨w.heap.size, 5, none⟩ = some (.int .i64 a5) := blk_cell BK.out 5; have k6 : w68.cell? ⟨w.heap.size, 6, none⟩ = some (.slice A6 n6 c6) := blk_cell BK.out 6; cases hp68 : p 68))
    all_goals (exact S1.out _ _ _ _ _ _ _ _ _ HB.out BK.out (by rw [HR.out]; first | (simp only [e1, hp68, Bool.true_or, Bool.false_or, Bool.or_true, Bool.or_false, Bool.true_and, Bool.false_and]; done) | (simp only [e1, Bool.true_or, Bool.false_or, Bool.or_true, Bool.or_false, Bool.true_and, Bool.false_and]; done)))
  · go_wp2_with (first | (go_at_call 102; (with_reducible refine (HH.out 68 (by decide) _).mono ?_); rintro e w68 ⟨rfl, hb9⟩; have HBn := Aside0.mk (HB.out.trans (hb9.mono HB.out.size)); have BKn : Aside0 (w68.heap[w.heap.size]? = some (.cells #[.int .i64 a0, .int .i64 a1, .int .i64 a2, .int .i64 a3, .int .i64 a4, .int .i64 a5, .slice A6 n6 c6] 52 (0, 0))) := ⟨(hb9.block _ (blk_lt BK.out)).trans BK.out⟩; clear HB BK k0 k1 k2 k3 k4 k5 k6 hb9; have HB := HBn; have BK := BKn; clear HBn BKn; have k0 : w68.cell? ⟨w.heap.size, 0, none⟩ = some (.int .i64 a0) := blk_cell BK.out 0; have k1 : w68.cell? ⟨w.heap.size, 1, none⟩ = some (.int .i64 a1) := blk_cell BK.out 1; have k2 : w68.cell? ⟨w.heap.size, 2, none⟩ = some (.int .i64 a2) := blk_cell BK.out 2; have k3 : w68.cell? ⟨w.heap.size, 3, none⟩ = some (.int .i64 a3) := blk_cell BK.out 3; have k4 : w68.cell? ⟨w.heap.size, 4, none⟩ = some (.int .i64 a4) := blk_cell BK.out 4; have k5 : w68.cell? ⟨w.heap.size, 5, none⟩ = some (.int .i64 a5) := blk_cell BK.out 5; have k6 : w68.cell? ⟨w.heap.size, 6, none⟩ = some (.slice A6 n6 c6) := blk_cell BK.out 6; cases hp68 : p 68))
    all_goals (exact S1.out _ _ _ _ _ _ _ _ _ HB.out BK.out (by rw [HR.out]; first | (simp only [e1, hp68, Bool.true_or, Bool.false_or, Bool.or_true, Bool.or_false, Bool.true_and, Bool.false_and]; done) | (simp only [e1, Bool.true_or, Bool.false_or, Bool.or_true, Bool.or_false, Bool.true_and, Bool.false_and]; done)))
end Go.Proofs.Ytcknmcfomkbenaa.H

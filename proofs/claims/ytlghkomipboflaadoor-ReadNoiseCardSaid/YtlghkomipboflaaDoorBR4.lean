/- Texts of this claim, merged (part 4 of 13): RdC, RdF, RdG, RdH, RdR, RdT, RdU, RdV, RdW, RdY. -/
import Derived.Defers
import Derived.Recover
import Derived.Laws.Pointers
import Derived.Test.YtlghkomipboflaaDoorBR3
set_option linter.unusedVariables false
set_option linter.unusedSimpArgs false
section
namespace Go.Proofs.YtlghkomipboflaaDoor.Rd
open Go.RowKit Go.Proofs.YtlghkomipboflaaDoor Go.Proofs.YtlghkomipboflaaDoor.X Go.Proofs.YtlghkomipboflaaDoorW.PrintWords Go.Proofs.YtlghkomipboflaaDoorW.PrintLast Go.Proofs.YtlghkomipboflaaDoorW.PrintMore
set_option linter.unusedVariables false
set_option linter.unusedSimpArgs false
set_option maxHeartbeats 3200000 in
set_option maxRecDepth 100000 in
theorem blk_bad (wL : World) (hsh : ShTab wL) (ls : List (List ByteArray)) (hfine : Fine ls) (hlen : ls.length ≤ 1000000) (ws : List ByteArray) (vt vf : Value) (w : World) (reg : Int) (hr0 : 0 ≤ reg) (hr1 : reg ≤ 1000000000) (hk : blkF reg ls [] = none) (h : At wL ls ws vt vf w) :
    Calls Tryd.prog 55 #[pG wL, .int .i64 reg] w (Gone wL w) := by
  have HH := Lib.hid h
  have hlt := h.lt
  have HSH := Lib.hid hsh
  have HK0 := Lib.hid hk
  have HF0 := Lib.hid hfine
  clear h hsh hk hfine
  go_enter Tryd.func55, Tryd.ntmps55
  go_wp2_with ((with_reducible refine gate_dst (N := 6) rfl ?_); refine Kd.R_lit Kd.string _ 9 ?hg (N := 6) ?hd (xs := endB) (inner := [.string (⟨#[106, 117, 109, 112]⟩ : ByteArray), .string (⟨#[98, 114, 97, 110, 99, 104]⟩ : ByteArray), .string (⟨#[114, 101, 116, 117, 114, 110]⟩ : ByteArray)]) (ok := fun _ => True) (okp := fun _ => True) ?hr ?hp (fun _ hk => hk) trivial (Below.refl _ _) (Nat.le_refl _) (by first | done | decide) ?_; (case hd => rfl); (case hg => rfl); (case hr => first | (go_simp; done) | (go_simp; rfl)); (case hp => exact (Reps.one (show Kd.M Kd.string _ _ _ (⟨#[106, 117, 109, 112]⟩ : ByteArray) [.string (⟨#[106, 117, 109, 112]⟩ : ByteArray)] from rfl) (Reps.one (show Kd.M Kd.string _ _ _ (⟨#[98, 114, 97, 110, 99, 104]⟩ : ByteArray) [.string (⟨#[98, 114, 97, 110, 99, 104]⟩ : ByteArray)] from rfl) (Reps.one (show Kd.M Kd.string _ _ _ (⟨#[114, 101, 116, 117, 114, 110]⟩ : ByteArray) [.string (⟨#[114, 101, 116, 117, 114, 110]⟩ : ByteArray)] from rfl) (Reps.none _ _))))); intro ve W1 hre hbe hge _)
  have hb1 : Below w.heap.size w W1 := (below_alloc (Below.refl _ _) _).trans (hbe.mono (by simp))
  have hB1 : w.heap.size + 1 ≤ W1.heap.size := by have := hbe.size; simpa using this
  have hre : Kd.string.R 9 W1 (w.heap.size + 1) (fun k => k < W1.heap.size) ve endB := Kd.R_mono (Kd.R_bound (Kd.R_lower hre (by simp))) (fun k hk => hk.2.2.1)
  have hbox : BB w.heap.size _ _ _ _ _ W1 := BB.block (heap_alloc_new w _) (hbe.block _ (by simp))
  obtain ⟨B2, hB2⟩ : ∃ B, B = W1.heap.size := ⟨_, rfl⟩
  rw [← hB2] at hre hB1
  have hB3 : B2 ≤ W1.heap.size := Nat.le_of_eq hB2
  have ha1 := HH.out.later hb1
  have hs1 := (Same.now wL w).later hb1
  obtain ⟨Ae, ce, rfl⟩ := Kd.R_slice hre
  clear hb1 hbe hge hB2
  have HE := Lib.hid hre
  have HK := Lib.hid hbox
  have HA := Lib.hid ha1
  have HS := Lib.hid hs1
  clear hre hbox ha1 hs1
  have hB4 : w.heap.size < B2 := hB1
  go_loopg [20] ls.length (fun g _ Wr => ∃ (rest : List (List ByteArray)) (ws0 : List ByteArray) (xs : List In) (v : Value), rest.length = g ∧ Hid (blkF reg rest xs = none) ∧ Hid (Fine rest) ∧ xs.length + rest.length ≤ 1000000 ∧ Hid (BB w.heap.size v (.int .u8 0) (.int .i64 0) (.int .i64 0) (.int .i64 0) Wr) ∧ Hid (At wL rest ws0 vt vf Wr) ∧ Hid (Same wL w Wr) ∧ Hid (KIn.R 39 Wr B2 (fun _ => True) v xs) ∧ Hid (Kd.string.R 9 Wr (w.heap.size + 1) (fun k => k < B2) (.slice Ae endB.length ce) endB) ∧ B2 ≤ Wr.heap.size)
  case atStart => exact ⟨ls, ws, [], _, rfl, HK0.out, HF0.out, by simpa using hlen, HK.out, HA.out, HS.out, Kd.R_nil _ _ _ _ _, HE.out, hB3⟩
  case round =>
    obtain ⟨rest, ws0, xs, v, hg, HQ, HF, hl1, HKr, HAr, HSr, HV, HEr, hBr⟩ := hrel
    subst hg
    cases rest with
    | nil =>
      have hab := HAr.out.below
      go_wp2_with (first
        | (go_at_call 33; (with_reducible refine (next_nil wL ws0 vt vf _ HAr.out).mono ?_); rintro e w2 ⟨rfl, rfl⟩)
        | (go_at_call 36; (with_reducible refine (need_no _).mono ?_); rintro e w9 ⟨rfl, rfl⟩))
      exact ⟨rfl, rfl, hab⟩
    | cons l rest =>
      obtain ⟨hll, x, r, rfl, hx⟩ := HF.out l (List.mem_cons_self)
      have HF2 : Hid (Fine rest) := Lib.hid (fun q hq => HF.out q (List.mem_cons_of_mem _ hq))
      obtain ⟨Av, cv, rfl⟩ := Kd.R_slice HV.out
      have hk := HKr.out
      have k0 := hk.c0; have k1 := hk.c1; have k2 := hk.c2; have k3 := hk.c3; have k4 := hk.c4; have z0 := hk.fz 0; have z1 := hk.fz 1; have z2 := hk.fz 2; have z3 := hk.fz 3; have z4 := hk.fz 4
      have HLL := Lib.hid hll
      have HX := Lib.hid hx
      have HQ1 : (if isEnd x then (endF (x :: r)).bind fun p => if p.2 = [] then some ((⟨xs, p.1⟩ : Bk), rest) else none
        else (insF (reg + (xs.length : Int)) (x :: r)).bind fun p => if p.2 = [] then blkF reg rest (xs ++ [p.1]) else none) = none := HQ.out
      clear hk hll hx
      cases hend : isEnd x with
      | true =>
        rw [hend, if_pos rfl] at HQ1
        have HEN := Lib.hid hend
        clear hend
        cases he : endF (x :: r) with
        | none =>
          have HT := Lib.hid he
          clear he HQ1
          go_wp2_with (first
            | (go_at_call 33; (with_reducible refine (next_cons wL (x :: r) _ ws0 vt vf _ HAr.out).mono ?_); rintro e w2 ⟨rfl, ha, hs⟩; obtain ⟨ad, n, cn, hn, cw, cx, i0⟩ := cells_at ha; have HN := Lib.hid hn; have HA2 := Lib.hid ha; have HS2 := Lib.hid (HSr.out.also hs); have hk2 := HKr.out.same hs hlt; have HK2 := Lib.hid hk2; clear k0 z0 k1 z1 k2 z2 k3 z3 k4 z4; have k0 := hk2.c0; have k1 := hk2.c1; have k2 := hk2.c2; have k3 := hk2.c3; have k4 := hk2.c4; have z0 := hk2.fz 0; have z1 := hk2.fz 1; have z2 := hk2.fz 2; have z3 := hk2.fz 3; have z4 := hk2.fz 4; have HV2 := Lib.hid (R_same HV.out hs (Nat.lt_trans hlt hB4)); have HE2 := Lib.hid (R_same HEr.out hs (Nat.lt_succ_of_lt hlt)); have hB2 := Nat.le_trans hBr hs.1; clear ha hs hk2 hn)
            | (go_at_call 36; (with_reducible refine (need_yes _).mono ?_); rintro e w9 ⟨rfl, rfl⟩)
            | (go_at_call 75; obtain ⟨Ax, cx2, hv, hcx, hC⟩ := Kd.R_reads HE2.out; cases hv; (with_reducible refine (slices_Contains_string_string.calls 4 Ae ce endB x _ _ hC hcx (ends_f x)).mono ?_); rintro e w3 ⟨rfl, hd⟩; rw [HEN.out]; have hd := hd.below; have ha3 := HA2.out.later hd; have HA3 := Lib.hid ha3; have HS3 := Lib.hid (HS2.out.later hd); have hk3 := HK2.out.block (hd.block _ (blk_lt HK2.out)); have HK3 := Lib.hid hk3; clear k0 z0 k1 z1 k2 z2 k3 z3 k4 z4; have k0 := hk3.c0; have k1 := hk3.c1; have k2 := hk3.c2; have k3 := hk3.c3; have k4 := hk3.c4; have z0 := hk3.fz 0; have z1 := hk3.fz 1; have z2 := hk3.fz 2; have z3 := hk3.fz 3; have z4 := hk3.fz 4; have HV3 := Lib.hid (Kd.R_below HV2.out hd); have HE3 := Lib.hid (Kd.R_below HE2.out hd); have hB3 := Nat.le_trans hB2 hd.size; clear hd hk3 hcx hC ha3)
            | (go_at_call 76; (with_reducible refine (end_bad wL _ (x :: r) HT.out vt vf _ HA3.out).mono ?_); rintro e w4 ⟨rfl, hb⟩))
          exact ⟨rfl, rfl, hb⟩
        | some p =>
          obtain ⟨t, r0⟩ := p
          have HT := Lib.hid he
          rw [he, Option.bind_some] at HQ1
          have hr : r0 ≠ [] := by rintro rfl; simp at HQ1
          clear he HQ1
          go_wp2_with (first
            | (go_at_call 33; (with_reducible refine (next_cons wL (x :: r) _ ws0 vt vf _ HAr.out).mono ?_); rintro e w2 ⟨rfl, ha, hs⟩; obtain ⟨ad, n, cn, hn, cw, cx, i0⟩ := cells_at ha; have HN := Lib.hid hn; have HA2 := Lib.hid ha; have HS2 := Lib.hid (HSr.out.also hs); have hk2 := HKr.out.same hs hlt; have HK2 := Lib.hid hk2; clear k0 z0 k1 z1 k2 z2 k3 z3 k4 z4; have k0 := hk2.c0; have k1 := hk2.c1; have k2 := hk2.c2; have k3 := hk2.c3; have k4 := hk2.c4; have z0 := hk2.fz 0; have z1 := hk2.fz 1; have z2 := hk2.fz 2; have z3 := hk2.fz 3; have z4 := hk2.fz 4; have HV2 := Lib.hid (R_same HV.out hs (Nat.lt_trans hlt hB4)); have HE2 := Lib.hid (R_same HEr.out hs (Nat.lt_succ_of_lt hlt)); have hB2 := Nat.le_trans hBr hs.1; clear ha hs hk2 hn)
            | (go_at_call 36; (with_reducible refine (need_yes _).mono ?_); rintro e w9 ⟨rfl, rfl⟩)
            | (go_at_call 75; obtain ⟨Ax, cx2, hv, hcx, hC⟩ := Kd.R_reads HE2.out; cases hv; (with_reducible refine (slices_Contains_string_string.calls 4 Ae ce endB x _ _ hC hcx (ends_f x)).mono ?_); rintro e w3 ⟨rfl, hd⟩; rw [HEN.out]; have hd := hd.below; have ha3 := HA2.out.later hd; have HA3 := Lib.hid ha3; have HS3 := Lib.hid (HS2.out.later hd); have hk3 := HK2.out.block (hd.block _ (blk_lt HK2.out)); have HK3 := Lib.hid hk3; clear k0 z0 k1 z1 k2 z2 k3 z3 k4 z4; have k0 := hk3.c0; have k1 := hk3.c1; have k2 := hk3.c2; have k3 := hk3.c3; have k4 := hk3.c4; have z0 := hk3.fz 0; have z1 := hk3.fz 1; have z2 := hk3.fz 2; have z3 := hk3.fz 3; have z4 := hk3.fz 4; have HV3 := Lib.hid (Kd.R_below HV2.out hd); have HE3 := Lib.hid (Kd.R_below HE2.out hd); have hB3 := Nat.le_trans hB2 hd.size; clear hd hk3 hcx hC ha3)
            | (go_at_call 76; (with_reducible refine (end_ok wL _ (x :: r) t r0 HT.out vt vf _ HA3.out).mono ?_); rintro e w4 ⟨rfl, ha, hs⟩; obtain ⟨A4, n4, c4, hn4, cw4⟩ := cells_at0 ha; have q0 : ((n4 : Int) == 0) = false := len_ne hn4 hr; have hab := ha.below; clear hn4; have HA4 := Lib.hid ha; have HS4 := Lib.hid (HS3.out.also hs); have hk4 := HK3.out.same hs hlt; have HK4 := Lib.hid hk4; clear k0 z0 k1 z1 k2 z2 k3 z3 k4 z4; have k0 := hk4.c0; have k1 := hk4.c1; have k2 := hk4.c2; have k3 := hk4.c3; have k4 := hk4.c4; have z0 := hk4.fz 0; have z1 := hk4.fz 1; have z2 := hk4.fz 2; have z3 := hk4.fz 3; have z4 := hk4.fz 4; have HV4 := Lib.hid (R_same HV3.out hs (Nat.lt_trans hlt hB4)); clear ha hs hk4))
          go_wp2_with (go_at_call 36; (with_reducible refine (need_no _).mono ?_); rintro e w9 ⟨rfl, rfl⟩)
          exact ⟨rfl, rfl, by repeat' (first | (with_reducible refine Below.setCell ?_ (Nat.le_of_lt hlt) _) | exact hab)⟩
      | false =>
        rw [hend, if_neg (by simp)] at HQ1
        have HEN := Lib.hid hend
        have hl2 : xs.length + rest.length + 1 ≤ 1000000 := by simp at hl1; omega
        have hwr : IntKind.i64.wrap (reg + (xs.length : Int)) = reg + (xs.length : Int) := by rw [IntKind.wrap_i64]; omega
        clear hend
        cases he : insF (reg + (xs.length : Int)) (x :: r) with
        | none =>
          have HI := Lib.hid he
          clear he HQ1
          go_wp2_with (first
            | (go_at_call 33; (with_reducible refine (next_cons wL (x :: r) _ ws0 vt vf _ HAr.out).mono ?_); rintro e w2 ⟨rfl, ha, hs⟩; obtain ⟨ad, n, cn, hn, cw, cx, i0⟩ := cells_at ha; have HN := Lib.hid hn; have HA2 := Lib.hid ha; have HS2 := Lib.hid (HSr.out.also hs); have hk2 := HKr.out.same hs hlt; have HK2 := Lib.hid hk2; clear k0 z0 k1 z1 k2 z2 k3 z3 k4 z4; have k0 := hk2.c0; have k1 := hk2.c1; have k2 := hk2.c2; have k3 := hk2.c3; have k4 := hk2.c4; have z0 := hk2.fz 0; have z1 := hk2.fz 1; have z2 := hk2.fz 2; have z3 := hk2.fz 3; have z4 := hk2.fz 4; have HV2 := Lib.hid (R_same HV.out hs (Nat.lt_trans hlt hB4)); have HE2 := Lib.hid (R_same HEr.out hs (Nat.lt_succ_of_lt hlt)); have hB2 := Nat.le_trans hBr hs.1; clear ha hs hk2 hn)
            | (go_at_call 36; (with_reducible refine (need_yes _).mono ?_); rintro e w9 ⟨rfl, rfl⟩)
            | (go_at_call 75; obtain ⟨Ax, cx2, hv, hcx, hC⟩ := Kd.R_reads HE2.out; cases hv; (with_reducible refine (slices_Contains_string_string.calls 4 Ae ce endB x _ _ hC hcx (ends_f x)).mono ?_); rintro e w3 ⟨rfl, hd⟩; rw [HEN.out]; have hd := hd.below; have ha3 := HA2.out.later hd; have HA3 := Lib.hid ha3; have HS3 := Lib.hid (HS2.out.later hd); have hk3 := HK2.out.block (hd.block _ (blk_lt HK2.out)); have HK3 := Lib.hid hk3; clear k0 z0 k1 z1 k2 z2 k3 z3 k4 z4; have k0 := hk3.c0; have k1 := hk3.c1; have k2 := hk3.c2; have k3 := hk3.c3; have k4 := hk3.c4; have z0 := hk3.fz 0; have z1 := hk3.fz 1; have z2 := hk3.fz 2; have z3 := hk3.fz 3; have z4 := hk3.fz 4; have HV3 := Lib.hid (Kd.R_below HV2.out hd); have HE3 := Lib.hid (Kd.R_below HE2.out hd); have hB3 := Nat.le_trans hB2 hd.size; clear hd hk3 hcx hC ha3))
          clear k0 z0 k1 z1 k2 z2 k3 z3 k4 z4
          have k0 := HK3.out.c0
          have z0 := HK3.out.fz 0
          go_region_law (go_simp; go_at_call 77; refine (ins_bad wL HSH.out _ x r HX.out HLL.out vt vf _ (reg + (xs.length : Int)) HI.out (HA3.out.drewN _)).mono ?_; rintro e w4 ⟨rfl, hb⟩; refine gone_dummy (w := w) ⟨rfl, rfl, hb⟩ ?_)
          all_goals trivial
        | some p =>
        obtain ⟨i, r0⟩ := p
        have HI := Lib.hid he
        rw [he, Option.bind_some] at HQ1
        clear he
        by_cases hr : r0 = []
        · subst hr
          rw [if_pos rfl] at HQ1
          have HQ2 := Lib.hid HQ1
          clear HQ1
          go_wp2_with (first
            | (go_at_call 33; (with_reducible refine (next_cons wL (x :: r) _ ws0 vt vf _ HAr.out).mono ?_); rintro e w2 ⟨rfl, ha, hs⟩; obtain ⟨ad, n, cn, hn, cw, cx, i0⟩ := cells_at ha; have HN := Lib.hid hn; have HA2 := Lib.hid ha; have HS2 := Lib.hid (HSr.out.also hs); have hk2 := HKr.out.same hs hlt; have HK2 := Lib.hid hk2; clear k0 z0 k1 z1 k2 z2 k3 z3 k4 z4; have k0 := hk2.c0; have k1 := hk2.c1; have k2 := hk2.c2; have k3 := hk2.c3; have k4 := hk2.c4; have z0 := hk2.fz 0; have z1 := hk2.fz 1; have z2 := hk2.fz 2; have z3 := hk2.fz 3; have z4 := hk2.fz 4; have HV2 := Lib.hid (R_same HV.out hs (Nat.lt_trans hlt hB4)); have HE2 := Lib.hid (R_same HEr.out hs (Nat.lt_succ_of_lt hlt)); have hB2 := Nat.le_trans hBr hs.1; clear ha hs hk2 hn)
            | (go_at_call 36; (with_reducible refine (need_yes _).mono ?_); rintro e w9 ⟨rfl, rfl⟩)
            | (go_at_call 75; obtain ⟨Ax, cx2, hv, hcx, hC⟩ := Kd.R_reads HE2.out; cases hv; (with_reducible refine (slices_Contains_string_string.calls 4 Ae ce endB x _ _ hC hcx (ends_f x)).mono ?_); rintro e w3 ⟨rfl, hd⟩; rw [HEN.out]; have hd := hd.below; have ha3 := HA2.out.later hd; have HA3 := Lib.hid ha3; have HS3 := Lib.hid (HS2.out.later hd); have hk3 := HK2.out.block (hd.block _ (blk_lt HK2.out)); have HK3 := Lib.hid hk3; clear k0 z0 k1 z1 k2 z2 k3 z3 k4 z4; have k0 := hk3.c0; have k1 := hk3.c1; have k2 := hk3.c2; have k3 := hk3.c3; have k4 := hk3.c4; have z0 := hk3.fz 0; have z1 := hk3.fz 1; have z2 := hk3.fz 2; have z3 := hk3.fz 3; have z4 := hk3.fz 4; have HV3 := Lib.hid (Kd.R_below HV2.out hd); have HE3 := Lib.hid (Kd.R_below HE2.out hd); have hB3 := Nat.le_trans hB2 hd.size; clear hd hk3 hcx hC ha3))
          clear k0 z0 k1 z1 k2 z2 k3 z3 k4 z4
          have k0 := HK3.out.c0
          have z0 := HK3.out.fz 0
          go_region_law (first
            | (refine Kd.R_append_step KIn (w0 := w4) B2 (by rfl) (.tmp 34) (.tmp 42) 32 39 (.agg #[(.int .u8 0), (.int .i64 0), (.int .i64 0), (.int .i64 0), (.int .i64 0), (.slice none 0 0), (.slice none 0 0)]) 88 (by rfl) Tryd.underlying32 infoIn rfl (by decide) (by decide) (.slice Av xs.length cv) xs i [.int .u8 i.f0, .int .i64 i.f1, .int .i64 i.f2, .int .i64 i.f3, .int .i64 i.f4, .slice A5 i.f5.length c5, .slice A6 i.f6.length c6] (fun _ => True) (fun k => w3.heap.size ≤ k) (by simp [Act.eval, Act.put]) (by simp [Act.eval, Act.put]) HM.out (fun k hk => ⟨trivial, fun e => by have := Kd.R_lt HV3.out k e.symm; omega⟩) (fun _ _ => trivial) HV4.out (Below.refl _ _) hBw (by omega) ?_; intro v9 w5 ho hb hg hat; obtain ⟨A9, c9, rfl⟩ := Kd.R_slice ho; rw [List.length_append, List.length_singleton] at ho hat; have HV5 := Lib.hid ho; have HA5 := Lib.hid (HA4.out.upon (hb.mono (Nat.le_of_lt hB4)) hlt); have HS5 := Lib.hid (HS4.out.upon (hb.mono (Nat.le_of_lt hB4))); have hk5 := HK4.out.block (hb.block _ hB4); have HK5 := Lib.hid hk5; have HE5 := Lib.hid (Kd.R_step HE4.out (fun k hk _ => hb.block k hk)); have hB5 := Nat.le_trans hBw hb.size; have k0 := hk5.c0; have z0 := hk5.fz 0; clear ho hb hg hat hk5)
            | (go_simp; go_at_call 77; refine (ins_ok wL HSH.out _ x r HX.out HLL.out vt vf _ (reg + (xs.length : Int)) i [] HI.out (HA3.out.drewN _)).mono ?_; rintro e w4 ⟨v5, v6, rfl, h5, h6, ha, hs⟩; obtain ⟨A5, c5, rfl⟩ := Kd.R_slice h5; obtain ⟨A6, c6, rfl⟩ := Kd.R_slice h6; have HA4 := Lib.hid ha; have HS4 := Lib.hid (HS3.out.also hs); have hk4 := HK3.out.same hs hlt; have HK4 := Lib.hid hk4; have HV4 := Lib.hid (R_same HV3.out hs (Nat.lt_trans hlt hB4)); have HE4 := Lib.hid (R_same HE3.out hs (Nat.lt_succ_of_lt hlt)); have hBw := Nat.le_trans hB3 hs.1; have hz4 : w.heap.size < w4.heap.size := Nat.lt_of_lt_of_le hB4 hBw; have HM := Lib.hid (k39_mkM w4 B2 (fun k => w3.heap.size ≤ k) i (Kd.R_lower (Kd.R_mono (Kd.R_bound h5) (fun k hk => hk.2.1)) hB3) (Kd.R_lower (Kd.R_mono (Kd.R_bound h6) (fun k hk => hk.2.1)) hB3)); have k0 := hk4.c0; have z0 := hk4.fz 0; clear ha hs hk4 h5 h6))
          all_goals
            have ha6 := (HA5.out.set hlt 0 (.slice A9 (xs.length + 1) c9))
            have hs6 := (HS5.out.set (Nat.le_refl _) 0 (.slice A9 (xs.length + 1) c9))
            have hk6 := (HK5.out.set0 (.slice A9 (xs.length + 1) c9))
            have hv6 := R_on HV5.out hB4 0 (.slice A9 (xs.length + 1) c9)
            have he6 := R_on HE5.out (Nat.lt_succ_self _) 0 (.slice A9 (xs.length + 1) c9)
            have hz6 : B2 ≤ (w5.setCell ⟨w.heap.size, 0, none⟩ (.slice A9 (xs.length + 1) c9)).heap.size := by rw [set_size]; exact hB5
            clear k0 z0
            generalize w5.setCell ⟨w.heap.size, 0, none⟩ (.slice A9 (xs.length + 1) c9) = w6 at ha6 hs6 hk6 hv6 he6 hz6 ⊢
            have HA6 := Lib.hid ha6
            have HS6 := Lib.hid hs6
            have HK6 := Lib.hid hk6
            have HV6 := Lib.hid hv6
            have HE6 := Lib.hid he6
            obtain ⟨A7, n7, c7, hn7, cw7⟩ := cells_at0 ha6
            cases hn7
            clear ha6 hs6 hk6 hv6 he6
            go_wp2_with (go_at_call 36; (with_reducible refine (need_yes _).mono ?_); rintro e w9 ⟨rfl, rfl⟩)
            go_roundg rest.length
            case measure => simp
            case rel => exact ⟨rest, [], xs ++ [i], .slice A9 (xs.length + 1) c9, rfl, HQ2.out, HF2.out, by simp; omega, HK6.out, HA6.out, HS6.out, HV6.out, HE6.out, hz6⟩
        · clear HQ1
          go_wp2_with (first
            | (go_at_call 33; (with_reducible refine (next_cons wL (x :: r) _ ws0 vt vf _ HAr.out).mono ?_); rintro e w2 ⟨rfl, ha, hs⟩; obtain ⟨ad, n, cn, hn, cw, cx, i0⟩ := cells_at ha; have HN := Lib.hid hn; have HA2 := Lib.hid ha; have HS2 := Lib.hid (HSr.out.also hs); have hk2 := HKr.out.same hs hlt; have HK2 := Lib.hid hk2; clear k0 z0 k1 z1 k2 z2 k3 z3 k4 z4; have k0 := hk2.c0; have k1 := hk2.c1; have k2 := hk2.c2; have k3 := hk2.c3; have k4 := hk2.c4; have z0 := hk2.fz 0; have z1 := hk2.fz 1; have z2 := hk2.fz 2; have z3 := hk2.fz 3; have z4 := hk2.fz 4; have HV2 := Lib.hid (R_same HV.out hs (Nat.lt_trans hlt hB4)); have HE2 := Lib.hid (R_same HEr.out hs (Nat.lt_succ_of_lt hlt)); have hB2 := Nat.le_trans hBr hs.1; clear ha hs hk2 hn)
            | (go_at_call 36; (with_reducible refine (need_yes _).mono ?_); rintro e w9 ⟨rfl, rfl⟩)
            | (go_at_call 75; obtain ⟨Ax, cx2, hv, hcx, hC⟩ := Kd.R_reads HE2.out; cases hv; (with_reducible refine (slices_Contains_string_string.calls 4 Ae ce endB x _ _ hC hcx (ends_f x)).mono ?_); rintro e w3 ⟨rfl, hd⟩; rw [HEN.out]; have hd := hd.below; have ha3 := HA2.out.later hd; have HA3 := Lib.hid ha3; have HS3 := Lib.hid (HS2.out.later hd); have hk3 := HK2.out.block (hd.block _ (blk_lt HK2.out)); have HK3 := Lib.hid hk3; clear k0 z0 k1 z1 k2 z2 k3 z3 k4 z4; have k0 := hk3.c0; have k1 := hk3.c1; have k2 := hk3.c2; have k3 := hk3.c3; have k4 := hk3.c4; have z0 := hk3.fz 0; have z1 := hk3.fz 1; have z2 := hk3.fz 2; have z3 := hk3.fz 3; have z4 := hk3.fz 4; have HV3 := Lib.hid (Kd.R_below HV2.out hd); have HE3 := Lib.hid (Kd.R_below HE2.out hd); have hB3 := Nat.le_trans hB2 hd.size; clear hd hk3 hcx hC ha3))
          clear k0 z0 k1 z1 k2 z2 k3 z3 k4 z4
          have k0 := HK3.out.c0
          have z0 := HK3.out.fz 0
          go_region_law (first
            | (refine Kd.R_append_step KIn (w0 := w4) B2 (by rfl) (.tmp 34) (.tmp 42) 32 39 (.agg #[(.int .u8 0), (.int .i64 0), (.int .i64 0), (.int .i64 0), (.int .i64 0), (.slice none 0 0), (.slice none 0 0)]) 88 (by rfl) Tryd.underlying32 infoIn rfl (by decide) (by decide) (.slice Av xs.length cv) xs i [.int .u8 i.f0, .int .i64 i.f1, .int .i64 i.f2, .int .i64 i.f3, .int .i64 i.f4, .slice A5 i.f5.length c5, .slice A6 i.f6.length c6] (fun _ => True) (fun k => w3.heap.size ≤ k) (by simp [Act.eval, Act.put]) (by simp [Act.eval, Act.put]) HM.out (fun k hk => ⟨trivial, fun e => by have := Kd.R_lt HV3.out k e.symm; omega⟩) (fun _ _ => trivial) HV4.out (Below.refl _ _) hBw (by omega) ?_; intro v9 w5 ho hb hg hat; obtain ⟨A9, c9, rfl⟩ := Kd.R_slice ho; rw [List.length_append, List.length_singleton] at ho hat; have HV5 := Lib.hid ho; have HA5 := Lib.hid (HA4.out.upon (hb.mono (Nat.le_of_lt hB4)) hlt); have HS5 := Lib.hid (HS4.out.upon (hb.mono (Nat.le_of_lt hB4))); have hk5 := HK4.out.block (hb.block _ hB4); have HK5 := Lib.hid hk5; have HE5 := Lib.hid (Kd.R_step HE4.out (fun k hk _ => hb.block k hk)); have hB5 := Nat.le_trans hBw hb.size; have k0 := hk5.c0; have z0 := hk5.fz 0; clear ho hb hg hat hk5)
            | (go_simp; go_at_call 77; refine (ins_ok wL HSH.out _ x r HX.out HLL.out vt vf _ (reg + (xs.length : Int)) i r0 HI.out (HA3.out.drewN _)).mono ?_; rintro e w4 ⟨v5, v6, rfl, h5, h6, ha, hs⟩; obtain ⟨A5, c5, rfl⟩ := Kd.R_slice h5; obtain ⟨A6, c6, rfl⟩ := Kd.R_slice h6; have HA4 := Lib.hid ha; have HS4 := Lib.hid (HS3.out.also hs); have hk4 := HK3.out.same hs hlt; have HK4 := Lib.hid hk4; have HV4 := Lib.hid (R_same HV3.out hs (Nat.lt_trans hlt hB4)); have HE4 := Lib.hid (R_same HE3.out hs (Nat.lt_succ_of_lt hlt)); have hBw := Nat.le_trans hB3 hs.1; have hz4 : w.heap.size < w4.heap.size := Nat.lt_of_lt_of_le hB4 hBw; have HM := Lib.hid (k39_mkM w4 B2 (fun k => w3.heap.size ≤ k) i (Kd.R_lower (Kd.R_mono (Kd.R_bound h5) (fun k hk => hk.2.1)) hB3) (Kd.R_lower (Kd.R_mono (Kd.R_bound h6) (fun k hk => hk.2.1)) hB3)); have k0 := hk4.c0; have z0 := hk4.fz 0; clear ha hs hk4 h5 h6))
          all_goals
            have ha6 := (HA5.out.set hlt 0 (.slice A9 (xs.length + 1) c9))
            have hs6 := (HS5.out.set (Nat.le_refl _) 0 (.slice A9 (xs.length + 1) c9))
            have hk6 := (HK5.out.set0 (.slice A9 (xs.length + 1) c9))
            have hv6 := R_on HV5.out hB4 0 (.slice A9 (xs.length + 1) c9)
            have he6 := R_on HE5.out (Nat.lt_succ_self _) 0 (.slice A9 (xs.length + 1) c9)
            have hz6 : B2 ≤ (w5.setCell ⟨w.heap.size, 0, none⟩ (.slice A9 (xs.length + 1) c9)).heap.size := by rw [set_size]; exact hB5
            clear k0 z0
            generalize w5.setCell ⟨w.heap.size, 0, none⟩ (.slice A9 (xs.length + 1) c9) = w6 at ha6 hs6 hk6 hv6 he6 hz6 ⊢
            have HA6 := Lib.hid ha6
            have HS6 := Lib.hid hs6
            have HK6 := Lib.hid hk6
            have HV6 := Lib.hid hv6
            have HE6 := Lib.hid he6
            obtain ⟨A7, n7, c7, hn7, cw7⟩ := cells_at0 ha6
            have q0 : ((n7 : Int) == 0) = false := len_ne hn7 hr
            have hab := ha6.below
            clear hn7
            clear ha6 hs6 hk6 hv6 he6
            go_wp2_with (go_at_call 36; (with_reducible refine (need_no _).mono ?_); rintro e w9 ⟨rfl, rfl⟩)
            exact ⟨rfl, rfl, hab⟩
end Go.Proofs.YtlghkomipboflaaDoor.Rd
end
section
namespace Go.Proofs.YtlghkomipboflaaDoor.Rd
open Go.RowKit Go.Proofs.YtlghkomipboflaaDoor Go.Proofs.YtlghkomipboflaaDoor.X Go.Proofs.YtlghkomipboflaaDoorW.PrintWords Go.Proofs.YtlghkomipboflaaDoorW.PrintLast Go.Proofs.YtlghkomipboflaaDoorW.PrintMore
set_option linter.unusedVariables false
set_option linter.unusedSimpArgs false
def FB (b : Nat) (a0 a1 : Value) (W : World) : Prop := W.heap[b]? = some (.cells #[a0, a1] 31 (0, 0))
theorem FB.c0 {g a0 a1 W} (h : FB g a0 a1 W) : W.cell? ⟨g, 0, none⟩ = some a0 := by unfold FB at h; simp [World.cell?, h]
theorem FB.c1 {g a0 a1 W} (h : FB g a0 a1 W) : W.cell? ⟨g, 1, none⟩ = some a1 := by unfold FB at h; simp [World.cell?, h]
theorem FB.fz {g a0 a1 W} (h : FB g a0 a1 W) (j : Nat) : W.frozen? ⟨g, j, none⟩ = false := by unfold FB at h; simp [World.frozen?, h]
theorem FB.set0 {g a0 a1 W} (h : FB g a0 a1 W) (v : Value) : FB g v a1 (W.setCell ⟨g, 0, none⟩ v) := by unfold FB at h ⊢; rw [heap_set h]; rfl
theorem FB.set1 {g a0 a1 W} (h : FB g a0 a1 W) (v : Value) : FB g a0 v (W.setCell ⟨g, 1, none⟩ v) := by unfold FB at h ⊢; rw [heap_set h]; rfl
theorem FB.same {wL : World} {g a0 a1 W W1} (h : FB g a0 a1 W) (hs : Same wL W W1) (hg : wL.heap.size < g) : FB g a0 a1 W1 := by
  unfold FB at h ⊢
  rw [hs.2 g (blk_lt h) (by omega) (by simp), h]
theorem FB.block {g a0 a1 W W1} (h : FB g a0 a1 W) (hb : W1.heap[g]? = W.heap[g]?) : FB g a0 a1 W1 := by
  unfold FB at h ⊢
  rw [hb, h]
abbrev Fn : Type := S31
abbrev KBk : Kd Bk := k36
abbrev Tp : Type := S41
abbrev KTp : Kd Tp := k41
def isBlk (x : ByteArray) : Bool := x.toList == [98, 108, 111, 99, 107]
def regT (ts : List Tp) (sig : Int) : Int := if sig < (ts.length : Int) then ((rd_T41 ts sig).f3.length : Int) else 0
def blksF : Nat → Int → List (List ByteArray) → List Bk → Option (List Bk × List (List ByteArray))
  | 0, _, _, _ => none
  | _ + 1, _, [], bs => some (bs, [])
  | k + 1, reg, l :: ls, bs => if isBlk (l.headD ⟨#[]⟩) then (if l.length = 1 then (blkF reg ls []).bind fun q => blksF k (reg + (q.1.f0.length : Int)) q.2 (bs ++ [q.1]) else none) else some (bs, l :: ls)
def fnF (ts : List Tp) (ws : List ByteArray) (ls : List (List ByteArray)) : Option (Fn × List (List ByteArray)) :=
  (mkN 116 ws).bind fun p => if p.2 = [] then (blksF (ls.length + 1) (regT ts p.1) ls []).map fun q => (⟨p.1, q.1⟩, q.2) else none
theorem blkF_rest (reg : Int) : ∀ (ls : List (List ByteArray)) (xs : List In) (b : Bk) (r : List (List ByteArray)), blkF reg ls xs = some (b, r) → r.length < ls.length ∧ b.f0.length + r.length < xs.length + ls.length ∧ ∀ l ∈ r, l ∈ ls := by
  intro ls
  induction ls with
  | nil => intro xs b r h; cases h
  | cons l ls ih =>
    intro xs b r h
    have e : blkF reg (l :: ls) xs = if isEnd (l.headD ⟨#[]⟩) then (endF l).bind fun p => if p.2 = [] then some (⟨xs, p.1⟩, ls) else none
     else (insF (reg + (xs.length : Int)) l).bind fun p => if p.2 = [] then blkF reg ls (xs ++ [p.1]) else none := rfl
    rw [e] at h
    split at h
    · rw [Option.bind_eq_some_iff] at h
      obtain ⟨p, _, h⟩ := h
      split at h
      · cases h
        refine ⟨by simp, by simp, fun q hq => List.mem_cons_of_mem _ hq⟩
      · cases h
    · rw [Option.bind_eq_some_iff] at h
      obtain ⟨p, _, h⟩ := h
      split at h
      · obtain ⟨h1, h2, h3⟩ := ih _ _ _ h
        refine ⟨by simp; omega, by simp at h2 ⊢; omega, fun q hq => List.mem_cons_of_mem _ (h3 q hq)⟩
      · cases h
def FnPost (wL : World) (ls : List (List ByteArray)) (vt vf : Value) (w : World) (f : Fn) (e : Ending) (w' : World) : Prop :=
  ∃ v, e = .returned (.agg #[.int .i64 f.f0, v]) ∧ KBk.R 36 w' w.heap.size (fun _ => True) v f.f1 ∧ At wL ls [] vt vf w' ∧ Same wL w w'
theorem fn_end {wL : World} {ls : List (List ByteArray)} {vt vf : Value} {w W : World} {x : Fn} {tmps : Array Value} {b : Nat} {v : Value} (h2 : tmps.getD 2 undef = .pointer (some ⟨b, 0, none⟩))
    (hk : FB b (.int .i64 x.f0) v W) (h5 : KBk.R 36 W w.heap.size (fun _ => True) v x.f1) (ha : At wL ls [] vt vf W) (hs : Same wL w W) :
    bodyPost Tryd.prog Tryd.f37 (FnPost wL ls vt vf w x) Exit.ret { tmps := tmps, defers := [] } W :=
  bodyPost_ret (results_cell_row rfl _ _ b 31 _ (0, 0) _ h2 hk Tryd.underlying31 rfl (by kernel_rfl)) rfl ⟨v, rfl, h5, ha, hs⟩
noncomputable def c37 : Code := Tryd.f37.body.getD .skip
set_option maxRecDepth 100000 in
theorem c37_cut : c37 = cutAt 2 c37 (rights 2 c37) := by kernel_rfl
set_option maxRecDepth 100000 in
theorem enter37 (wL w : World) (R : Ending → World → Prop) (h : Code.wp Tryd.prog c37 (bodyPost Tryd.prog Tryd.f37 R) { tmps := #[pG wL, undef, undef, undef, undef, undef, undef, undef, undef, undef, undef, undef, undef, undef, undef, undef, undef, undef, undef, undef, undef, undef, undef, undef, undef, undef, undef, undef, undef, undef, undef, undef, undef, undef, undef, undef, undef, undef, undef, undef, undef, undef, undef, undef, undef, undef, undef, undef, undef, undef, undef, undef, undef, undef, undef, undef, undef, undef, undef, undef, undef, undef, undef, undef, undef, undef, undef, undef, undef, undef, undef, undef, undef], defers := [] } w) : Calls Tryd.prog 37 #[pG wL] w R := by
  go_enter Tryd.func37, Tryd.ntmps37
  exact h
set_option maxRecDepth 100000 in
theorem open73 (a : Act) (hs : a.tmps.size = 73) (hd : a.defers = []) : ∃ us : Nat → Value, (∀ i, us i = a.tmps.toList.getD i undef) ∧ a = { tmps := #[us 0, us 1, us 2, us 3, us 4, us 5, us 6, us 7, us 8, us 9, us 10, us 11, us 12, us 13, us 14, us 15, us 16, us 17, us 18, us 19, us 20, us 21, us 22, us 23, us 24, us 25, us 26, us 27, us 28, us 29, us 30, us 31, us 32, us 33, us 34, us 35, us 36, us 37, us 38, us 39, us 40, us 41, us 42, us 43, us 44, us 45, us 46, us 47, us 48, us 49, us 50, us 51, us 52, us 53, us 54, us 55, us 56, us 57, us 58, us 59, us 60, us 61, us 62, us 63, us 64, us 65, us 66, us 67, us 68, us 69, us 70, us 71, us 72], defers := [] } := by
  refine ⟨fun i => a.tmps.toList.getD i undef, fun _ => rfl, ?_⟩
  cases a with
  | mk tmps defers =>
    simp only at hs hd
    subst hd
    have hl : tmps.toList.length = 73 := by simpa using hs
    have e := list_all' tmps.toList
    rw [hl] at e
    generalize hll : tmps.toList = l at e
    have e2 : (List.range 73).map (fun i => l.getD i undef) = [l.getD 0 undef, l.getD 1 undef, l.getD 2 undef, l.getD 3 undef, l.getD 4 undef, l.getD 5 undef, l.getD 6 undef, l.getD 7 undef, l.getD 8 undef, l.getD 9 undef, l.getD 10 undef, l.getD 11 undef, l.getD 12 undef, l.getD 13 undef, l.getD 14 undef, l.getD 15 undef, l.getD 16 undef, l.getD 17 undef, l.getD 18 undef, l.getD 19 undef, l.getD 20 undef, l.getD 21 undef, l.getD 22 undef, l.getD 23 undef, l.getD 24 undef, l.getD 25 undef, l.getD 26 undef, l.getD 27 undef, l.getD 28 undef, l.getD 29 undef, l.getD 30 undef, l.getD 31 undef, l.getD 32 undef, l.getD 33 undef, l.getD 34 undef, l.getD 35 undef, l.getD 36 undef, l.getD 37 undef, l.getD 38 undef, l.getD 39 undef, l.getD 40 undef, l.getD 41 undef, l.getD 42 undef, l.getD 43 undef, l.getD 44 undef, l.getD 45 undef, l.getD 46 undef, l.getD 47 undef, l.getD 48 undef, l.getD 49 undef, l.getD 50 undef, l.getD 51 undef, l.getD 52 undef, l.getD 53 undef, l.getD 54 undef, l.getD 55 undef, l.getD 56 undef, l.getD 57 undef, l.getD 58 undef, l.getD 59 undef, l.getD 60 undef, l.getD 61 undef, l.getD 62 undef, l.getD 63 undef, l.getD 64 undef, l.getD 65 undef, l.getD 66 undef, l.getD 67 undef, l.getD 68 undef, l.getD 69 undef, l.getD 70 undef, l.getD 71 undef, l.getD 72 undef] := rfl
    rw [e2] at e
    congr 1
    have e3 : tmps = tmps.toList.toArray := by simp
    rw [e3, hll]
    conv => lhs; rw [e]
abbrev pQ (b : Nat) : Value := .pointer (some ⟨b, 0, none⟩)
theorem mkN_nn {c n : Int} {ws r : List ByteArray} (h : mkN c ws = some (n, r)) : 0 ≤ n := by
  cases ws with
  | nil => cases h
  | cons x l =>
    unfold mkN at h
    rw [Option.map_eq_some_iff] at h
    obtain ⟨m, hm, e⟩ := h
    cases e
    unfold mk1 at hm
    split at hm
    · rename_i h2
      cases hm
      unfold markL at h2 ⊢
      split
      · simp
      · split
        · unfold smallL
          rw [if_neg (by omega)]
          split
          · rename_i h3; exact h3.2.1
          · simp
        · simp
    · cases hm
structure Fh (wL : World) (ls : List (List ByteArray)) (ws : List ByteArray) (vt vf : Value) (w : World) (sig : Int) (b1 : Nat) (W : World) : Prop where
  lt : w.heap.size < b1
  b0 : FB w.heap.size (.int .i64 0) (.slice none 0 0) W
  b1 : FB b1 (.int .i64 sig) (.slice none 0 0) W
  at_ : At wL ls ws vt vf W
  same : Same wL w W
set_option maxHeartbeats 1600000 in
set_option maxRecDepth 100000 in
theorem fn_head (wL : World) (ls : List (List ByteArray)) (ws : List ByteArray) (vt vf : Value) (w : World) (sig : Int) (rr : List ByteArray) (hm : mkN 116 ws = some (sig, rr)) (h : At wL ls ws vt vf w) (T : Code) (R : Ending → World → Prop)
    (hT : ∀ b1 a W, Fr 73 [(0, pG wL), (2, pB w), (3, pQ b1)] a → Fh wL ls rr vt vf w sig b1 W → Code.wp Tryd.prog T (bodyPost Tryd.prog Tryd.f37 R) a W) :
    Code.wp Tryd.prog (cutAt 2 c37 T) (bodyPost Tryd.prog Tryd.f37 R) { tmps := #[pG wL, undef, undef, undef, undef, undef, undef, undef, undef, undef, undef, undef, undef, undef, undef, undef, undef, undef, undef, undef, undef, undef, undef, undef, undef, undef, undef, undef, undef, undef, undef, undef, undef, undef, undef, undef, undef, undef, undef, undef, undef, undef, undef, undef, undef, undef, undef, undef, undef, undef, undef, undef, undef, undef, undef, undef, undef, undef, undef, undef, undef, undef, undef, undef, undef, undef, undef, undef, undef, undef, undef, undef, undef], defers := [] } w := by
  have HH := Lib.hid h
  have hlt := h.lt
  have HM := Lib.hid hm
  have HT := Lib.hid hT
  clear h hm hT
  conv => arg 2; whnf; arg 2; whnf; arg 2; whnf
  go_wp2_with (go_at_call 52; refine (mark_take wL ls ws 116 (by omega) (by omega) sig rr HM.out vt vf _ (HH.out.alloc _)).mono ?_; rintro e w1 ⟨rfl, ha, hs⟩; have HA1 := Lib.hid ha; have HS1 := Lib.hid (Same.wrap hs); have hk1 : FB w.heap.size _ _ w1 := FB.same (heap_alloc_new w _) hs hlt; have HK1 := Lib.hid hk1; have hz1 : w.heap.size < w1.heap.size := Nat.lt_of_lt_of_le (by simp) hs.1; clear ha hs hk1)
  exact HT.out w1.heap.size _ _ ⟨rfl, by intro p hp; simp only [List.mem_cons, List.not_mem_nil, or_false] at hp; rcases hp with rfl | rfl | rfl <;> rfl, rfl⟩ ⟨hz1, FB.block HK1.out ((below_alloc (Below.refl w1.heap.size w1) _).block _ hz1), heap_alloc_new w1 _, HA1.out.alloc _, HS1.out.alloc _⟩
set_option maxHeartbeats 1600000 in
set_option maxRecDepth 100000 in
theorem fn_head_b (wL : World) (ls : List (List ByteArray)) (ws : List ByteArray) (vt vf : Value) (w : World) (hm : mkN 116 ws = none) (h : At wL ls ws vt vf w) (T : Code) :
    Code.wp Tryd.prog (cutAt 2 c37 T) (bodyPost Tryd.prog Tryd.f37 (Gone wL w)) { tmps := #[pG wL, undef, undef, undef, undef, undef, undef, undef, undef, undef, undef, undef, undef, undef, undef, undef, undef, undef, undef, undef, undef, undef, undef, undef, undef, undef, undef, undef, undef, undef, undef, undef, undef, undef, undef, undef, undef, undef, undef, undef, undef, undef, undef, undef, undef, undef, undef, undef, undef, undef, undef, undef, undef, undef, undef, undef, undef, undef, undef, undef, undef, undef, undef, undef, undef, undef, undef, undef, undef, undef, undef, undef, undef], defers := [] } w := by
  have HH := Lib.hid h
  have hlt := h.lt
  have HM := Lib.hid hm
  clear h hm
  conv => arg 2; whnf; arg 2; whnf
  go_wp2_with (go_at_call 52; refine (mark_fail wL ls ws 116 (by omega) (by omega) HM.out vt vf _ (HH.out.alloc _)).mono ?_; rintro e w1 ⟨rfl, hb⟩)
  exact ⟨rfl, rfl, hb⟩
structure Fl (wL : World) (ls : List (List ByteArray)) (vt vf : Value) (w : World) (sig : Int) (b1 : Nat) (W : World) : Prop where
  lt : w.heap.size < b1
  b0 : FB w.heap.size (.int .i64 0) (.slice none 0 0) W
  b1 : FB b1 (.int .i64 sig) (.slice none 0 0) W
  at_ : At wL ls [] vt vf W
  same : Same wL w W
theorem c37_cut2 : rights 2 c37 = cutAt 3 (rights 2 c37) (rights 5 c37) := by kernel_rfl
set_option maxHeartbeats 1600000 in
set_option maxRecDepth 100000 in
theorem fn_mid (wL : World) (ls : List (List ByteArray)) (vt vf : Value) (w : World) (sig : Int) (b1 : Nat) (ts : List Tp) (h0 : 0 ≤ sig) (hts : sig < (ts.length : Int)) (a : Act) (hfr : Fr 73 [(0, pG wL), (2, pB w), (3, pQ b1)] a) (W : World) (ht : KTp.R 41 W (wL.heap.size + 1) (fun _ => True) vt ts) (h : Fh wL ls [] vt vf w sig b1 W) (T : Code) (R : Ending → World → Prop)
    (hT : ∀ a W', Fr 73 [(0, pG wL), (2, pB w), (3, pQ b1), (4, .int .i64 (regT ts sig))] a → Below W.heap.size W W' → Code.wp Tryd.prog T (bodyPost Tryd.prog Tryd.f37 R) a W') :
    Code.wp Tryd.prog (cutAt 3 (rights 2 c37) T) (bodyPost Tryd.prog Tryd.f37 R) a W := by
  obtain ⟨us, hus, rfl⟩ := open73 a hfr.size hfr.no
  have e0 := hfr.val hus 0 _ (List.mem_cons_self)
  have e2 := hfr.val hus 2 _ (List.mem_cons_of_mem _ (List.mem_cons_self))
  have e3 := hfr.val hus 3 _ (List.mem_cons_of_mem _ (List.mem_cons_of_mem _ (List.mem_cons_self)))
  rw [e0, e2, e3]
  clear e0 e2 e3
  clear hfr hus
  obtain ⟨vl, vw, hr, _, ⟨A2, c2, rfl, _, _⟩⟩ := h.at_.rb
  have c1 := hr.c1
  have c2' := hr.c2
  have f0 := h.b1.c0
  obtain ⟨At_, ct, rfl, hct, hC⟩ := Kd.R_reads ht
  obtain ⟨ad, A3, c3, rfl, g0, g1, g2, g3⟩ := at_T41 hC sig h0 hts
  have HT := Lib.hid hT
  clear hT hr ht hC h hct
  conv => arg 2; whnf; arg 2; whnf; arg 2; whnf; arg 2; whnf
  go_wp2_with (go_at_call 36; (with_reducible refine (need_yes _).mono ?_); rintro e w9 ⟨rfl, rfl⟩)
  go_region
  go_wp2
  go_region
  go_wp2
  have er : regT ts sig = ((rd_T41 ts sig).f3.length : Int) := by unfold regT; rw [if_pos hts]
  rw [er] at HT
  exact HT.out _ _ ⟨rfl, by intro p hp; simp only [List.mem_cons, List.not_mem_nil, or_false] at hp; rcases hp with rfl | rfl | rfl | rfl <;> rfl, rfl⟩ (Below.refl _ _).drew.drew
set_option maxHeartbeats 1600000 in
set_option maxRecDepth 100000 in
theorem fn_mid0 (wL : World) (ls : List (List ByteArray)) (vt vf : Value) (w : World) (sig : Int) (b1 : Nat) (ts : List Tp) (hts : ¬ sig < (ts.length : Int)) (a : Act) (hfr : Fr 73 [(0, pG wL), (2, pB w), (3, pQ b1)] a) (W : World) (ht : KTp.R 41 W (wL.heap.size + 1) (fun _ => True) vt ts) (h : Fh wL ls [] vt vf w sig b1 W) (T : Code) (R : Ending → World → Prop)
    (hT : ∀ a W', Fr 73 [(0, pG wL), (2, pB w), (3, pQ b1), (4, .int .i64 (regT ts sig))] a → Below W.heap.size W W' → Code.wp Tryd.prog T (bodyPost Tryd.prog Tryd.f37 R) a W') :
    Code.wp Tryd.prog (cutAt 3 (rights 2 c37) T) (bodyPost Tryd.prog Tryd.f37 R) a W := by
  obtain ⟨us, hus, rfl⟩ := open73 a hfr.size hfr.no
  have e0 := hfr.val hus 0 _ (List.mem_cons_self)
  have e2 := hfr.val hus 2 _ (List.mem_cons_of_mem _ (List.mem_cons_self))
  have e3 := hfr.val hus 3 _ (List.mem_cons_of_mem _ (List.mem_cons_of_mem _ (List.mem_cons_self)))
  rw [e0, e2, e3]
  clear e0 e2 e3
  clear hfr hus
  obtain ⟨vl, vw, hr, _, ⟨A2, c2, rfl, _, _⟩⟩ := h.at_.rb
  have c1 := hr.c1
  have c2' := hr.c2
  have f0 := h.b1.c0
  obtain ⟨At_, ct, rfl, hct, hC⟩ := Kd.R_reads ht
  have HT := Lib.hid hT
  clear hT hr ht hC h hct
  conv => arg 2; whnf; arg 2; whnf; arg 2; whnf; arg 2; whnf
  go_wp2_with (go_at_call 36; (with_reducible refine (need_yes _).mono ?_); rintro e w9 ⟨rfl, rfl⟩)
  go_region
  go_wp2
  have er : regT ts sig = 0 := by unfold regT; rw [if_neg (by omega)]
  rw [er] at HT
  exact HT.out _ _ ⟨rfl, by intro p hp; simp only [List.mem_cons, List.not_mem_nil, or_false] at hp; rcases hp with rfl | rfl | rfl | rfl <;> rfl, rfl⟩ (Below.refl _ _).drew
set_option maxHeartbeats 1600000 in
set_option maxRecDepth 100000 in
theorem fn_mid_b (wL : World) (ls : List (List ByteArray)) (ws : List ByteArray) (hne : ws ≠ []) (vt vf : Value) (w : World) (sig : Int) (b1 : Nat) (a : Act) (hfr : Fr 73 [(0, pG wL), (2, pB w), (3, pQ b1)] a) (W : World) (h : Fh wL ls ws vt vf w sig b1 W) (T : Code) :
    Code.wp Tryd.prog (cutAt 3 (rights 2 c37) T) (bodyPost Tryd.prog Tryd.f37 (Gone wL w)) a W := by
  obtain ⟨us, hus, rfl⟩ := open73 a hfr.size hfr.no
  have e0 := hfr.val hus 0 _ (List.mem_cons_self)
  have e2 := hfr.val hus 2 _ (List.mem_cons_of_mem _ (List.mem_cons_self))
  have e3 := hfr.val hus 3 _ (List.mem_cons_of_mem _ (List.mem_cons_of_mem _ (List.mem_cons_self)))
  rw [e0, e2, e3]
  clear e0 e2 e3
  clear hfr hus
  obtain ⟨A2, n2, c2, hn2, c1⟩ := cells_at0 h.at_
  have q0 : ((n2 : Int) == 0) = false := len_ne hn2 hne
  have hab := h.at_.below
  clear hn2 h
  conv => arg 2; whnf; arg 2; whnf
  go_wp2_with (go_at_call 36; (with_reducible refine (need_no _).mono ?_); rintro e w9 ⟨rfl, rfl⟩)
  exact ⟨rfl, rfl, hab⟩
end Go.Proofs.YtlghkomipboflaaDoor.Rd
end
section
namespace Go.Proofs.YtlghkomipboflaaDoor.Rd
open Go.RowKit Go.Proofs.YtlghkomipboflaaDoor Go.Proofs.YtlghkomipboflaaDoor.X Go.Proofs.YtlghkomipboflaaDoorW.PrintWords Go.Proofs.YtlghkomipboflaaDoorW.PrintLast Go.Proofs.YtlghkomipboflaaDoorW.PrintMore
set_option linter.unusedVariables false
set_option linter.unusedSimpArgs false
theorem infoBk : (Tryd.prog.info? 36).map (fun i => (i.zero, i.size, i.bytes)) = some (some (.agg #[(.slice none 0 0), (.int .u8 0), (.int .i64 0), (.int .i64 0), (.int .i64 0)]), 5, 56) := by kernel_rfl
theorem boxed {w4 w6 : World} {u : Value} {v0 v1 v2 v3 v4 : Value} (hg : (w4.alloc (.cells #[v0, v1, v2, v3, v4] 36)).grownBy w6 u.ownBlock) (hn : some w4.heap.size ≠ u.ownBlock) : w6.cell? ⟨w4.heap.size, 0, none⟩ = some v0 := by
  have e := hg.block w4.heap.size (by simp) hn
  have e2 := heap_alloc_new w4 (.cells #[v0, v1, v2, v3, v4] 36)
  rw [e2] at e
  simp [World.cell?, e]
set_option maxHeartbeats 3200000 in
set_option maxRecDepth 100000 in
theorem fn_loop (wL : World) (hsh : ShTab wL) (ls : List (List ByteArray)) (hfine : Fine ls) (hlen : ls.length ≤ 1000000) (vt vf : Value) (w : World) (sig : Int) (b1 : Nat) (reg : Int) (hr0 : 0 ≤ reg) (hr1 : reg ≤ 1000000) (hlt : wL.heap.size < w.heap.size) (bs : List Bk) (ls1 : List (List ByteArray)) (hk : blksF (ls.length + 1) reg ls [] = some (bs, ls1)) (a : Act) (hfr : Fr 73 [(0, pG wL), (2, pB w), (3, pQ b1), (4, .int .i64 reg)] a) (W : World) (h : Fh wL ls [] vt vf w sig b1 W) :
    Code.wp Tryd.prog (rights 5 c37) (bodyPost Tryd.prog Tryd.f37 (FnPost wL ls1 vt vf w ⟨sig, bs⟩)) a W := by
  obtain ⟨us, hus, rfl⟩ := open73 a hfr.size hfr.no
  have e0 := hfr.val hus 0 _ (List.mem_cons_self)
  have e2 := hfr.val hus 2 _ (List.mem_cons_of_mem _ (List.mem_cons_self))
  have e3 := hfr.val hus 3 _ (List.mem_cons_of_mem _ (List.mem_cons_of_mem _ (List.mem_cons_self)))
  have e4 := hfr.val hus 4 _ (List.mem_cons_of_mem _ (List.mem_cons_of_mem _ (List.mem_cons_of_mem _ (List.mem_cons_self))))
  rw [e0, e2, e3, e4]
  clear e0 e2 e3 e4
  clear hfr hus
  have hB := h.lt
  have hz := blk_lt h.b1
  have H0 := Lib.hid h.b0
  have H1 := Lib.hid h.b1
  have HA := Lib.hid h.at_
  have HS := Lib.hid h.same
  have HSH := Lib.hid hsh
  have HK0 := Lib.hid hk
  have HF0 := Lib.hid hfine
  clear h hsh hk hfine
  have hltb : wL.heap.size < b1 := Nat.lt_trans hlt hB
  conv => arg 2; whnf
  go_wp2
  go_loopg [4] ls.length (fun g v4 Wr => ∃ (rest : List (List ByteArray)) (bs0 : List Bk) (v : Value) (rg : Int) (k : Nat), rest.length = g ∧ v4 = .int .i64 rg ∧ 0 ≤ rg ∧ rg + (rest.length : Int) ≤ 2000000 ∧ bs0.length + rest.length ≤ 1000000 ∧ Hid (blksF k rg rest bs0 = some (bs, ls1)) ∧ Hid (Fine rest) ∧ Hid (FB w.heap.size (.int .i64 0) (.slice none 0 0) Wr) ∧ Hid (FB b1 (.int .i64 sig) v Wr) ∧ Hid (At wL rest [] vt vf Wr) ∧ Hid (Same wL w Wr) ∧ Hid (KBk.R 36 Wr (b1 + 1) (fun _ => True) v bs0) ∧ b1 < Wr.heap.size)
  case atStart => exact ⟨ls, [], _, reg, _, rfl, rfl, hr0, by omega, by simpa using hlen, HK0.out, HF0.out, H0.out, H1.out, HA.out, HS.out, Kd.R_nil _ _ _ _ _, hz⟩
  case round =>
    obtain ⟨rest, bs0, v, rg, k, hg, rfl, hg0, hg1, hl1, HQ, HF, H0r, H1r, HAr, HSr, HV, hBr⟩ := hrel
    subst hg
    obtain ⟨Av, cv, rfl⟩ := Kd.R_slice HV.out
    have p0 := H0r.out.c0
    have p1 := H0r.out.c1
    have q0 := H1r.out.c0
    have q1 := H1r.out.c1
    have yp0 := H0r.out.fz 0
    have yp1 := H0r.out.fz 1
    have yq0 := H1r.out.fz 0
    have yq1 := H1r.out.fz 1
    cases rest with
    | nil =>
      have hd : bs0 = bs ∧ ls1 = [] := by
        have := HQ.out
        cases k with
        | zero => cases this
        | succ k => have e : blksF (k + 1) rg [] bs0 = some (bs0, []) := rfl
                    rw [e] at this
                    cases this
                    exact ⟨rfl, rfl⟩
      obtain ⟨rfl, rfl⟩ := hd
      go_wp2_with (go_at_call 32; (with_reducible refine (first_nil wL [] vt vf _ HAr.out).mono ?_); rintro e w2 ⟨rfl, rfl⟩)
      exact fn_end rfl ((H0r.out.set0 _).set1 _) (Kd.R_lower (base' := w.heap.size) (by repeat' (first | (with_reducible refine R_on ?_ (Nat.lt_succ_of_lt hB) _ _) | exact HV.out)) (Nat.le_of_lt (Nat.lt_succ_of_lt hB))) ((HAr.out.set hlt _ _).set hlt _ _) ((HSr.out.set (Nat.le_refl _) _ _).set (Nat.le_refl _) _ _)
    | cons l rest =>
      obtain ⟨hll, x, r, rfl, hx⟩ := HF.out l (List.mem_cons_self)
      cases hb : isBlk x with
      | false =>
        have hd : bs0 = bs ∧ ls1 = (x :: r) :: rest := by
          have := HQ.out
          cases k with
          | zero => cases this
          | succ k => have e : blksF (k + 1) rg ((x :: r) :: rest) bs0 = if isBlk x then (if (x :: r).length = 1 then (blkF rg rest []).bind fun q => blksF k (rg + (q.1.f0.length : Int)) q.2 (bs0 ++ [q.1]) else none) else some (bs0, (x :: r) :: rest) := rfl
                      rw [e, hb, if_neg (by simp)] at this
                      cases this
                      exact ⟨rfl, rfl⟩
        obtain ⟨rfl, rfl⟩ := hd
        have eb : (x.toList == [98, 108, 111, 99, 107]) = false := hb
        go_wp2_with (go_at_call 32; (with_reducible refine (first_cons wL x r rest [] vt vf _ HAr.out).mono ?_); rintro e w2 ⟨rfl, rfl⟩)
        exact fn_end rfl ((H0r.out.set0 _).set1 _) (Kd.R_lower (base' := w.heap.size) (by repeat' (first | (with_reducible refine R_on ?_ (Nat.lt_succ_of_lt hB) _ _) | exact HV.out)) (Nat.le_of_lt (Nat.lt_succ_of_lt hB))) ((HAr.out.set hlt _ _).set hlt _ _) ((HSr.out.set (Nat.le_refl _) _ _).set (Nat.le_refl _) _ _)
      | true =>
        have hq := HQ.out
        cases k with
        | zero => cases hq
        | succ k =>
        have e : blksF (k + 1) rg ((x :: r) :: rest) bs0 = if isBlk x then (if (x :: r).length = 1 then (blkF rg rest []).bind fun q => blksF k (rg + (q.1.f0.length : Int)) q.2 (bs0 ++ [q.1]) else none) else some (bs0, (x :: r) :: rest) := rfl
        rw [e, hb, if_pos rfl] at hq
        by_cases hr : r = []
        · subst hr
          rw [if_pos (show [x].length = 1 from rfl), Option.bind_eq_some_iff] at hq
          obtain ⟨⟨b, rest2⟩, hbk, hq⟩ := hq
          obtain ⟨n1, n2, n3⟩ := blkF_rest _ _ _ _ _ hbk
          have HQ2 := Lib.hid hq
          have HBK := Lib.hid hbk
          have HF1 : Hid (Fine rest) := Lib.hid (fun q hq => HF.out q (List.mem_cons_of_mem _ hq))
          have HF2 : Hid (Fine rest2) := Lib.hid (fun q hq => HF1.out q (n3 q hq))
          have HN3 := Lib.hid n3
          have m1 : rest.length ≤ 1000000 := by simp at hl1; omega
          have m2 : rg + (b.f0.length : Int) + (rest2.length : Int) ≤ 2000000 := by simp at hg1 n2; omega
          have m3 : bs0.length + rest2.length + 1 ≤ 1000000 := by simp at hl1; omega
          have hwr : IntKind.i64.wrap (rg + (b.f0.length : Int)) = rg + (b.f0.length : Int) := by rw [IntKind.wrap_i64]; omega
          have eb : (x.toList == [98, 108, 111, 99, 107]) = true := hb
          have m4 : rest2.length < rest.length + 1 := by omega
          clear hbk hq e hb n1 n2 n3
          go_wp2_with (first
            | (go_at_call 32; (with_reducible refine (first_cons wL x [] rest [] vt vf _ HAr.out).mono ?_); rintro e w2 ⟨rfl, rfl⟩)
            | (go_at_call 33; (with_reducible refine (next_cons wL [x] rest [] vt vf _ HAr.out).mono ?_); rintro e w3 ⟨rfl, ha, hs⟩; obtain ⟨A3, n3, c3, hn3, cw⟩ := cells_at0 ha; cases hn3; have HA3 := Lib.hid ha; have HS3 := Lib.hid (HSr.out.also hs); have HK30 := Lib.hid (H0r.out.same hs hlt); have HK31 := Lib.hid (H1r.out.same hs hltb); have HV3 := Lib.hid (R_same HV.out hs (Nat.lt_succ_of_lt hltb)); have hz3 : b1 < w3.heap.size := Nat.lt_of_lt_of_le hBr hs.1; clear ha hs)
            | (go_at_call 36; (with_reducible refine (need_yes _).mono ?_); rintro e w9 ⟨rfl, hw9⟩; subst w9)
            | (go_at_call 55; (with_reducible refine (blk_ok wL HSH.out rest HF1.out m1 [x] vt vf _ rg hg0 (by omega) b rest2 HBK.out HA3.out).mono ?_); rintro e w4 ⟨vb, rfl, hvb, ha, hs⟩; obtain ⟨Ab, cb, rfl⟩ := Kd.R_slice hvb; clear p0 p1 q0 q1 yp0 yp1 yq0 yq1 cw; have HA4 := Lib.hid ha; have HS4 := Lib.hid (HS3.out.also hs); have hk40 := HK30.out.same hs hlt; have hk41 := HK31.out.same hs hltb; have HK40 := Lib.hid hk40; have HK41 := Lib.hid hk41; have HV4 := Lib.hid (R_same HV3.out hs (Nat.lt_succ_of_lt hltb)); have hz4 : b1 < w4.heap.size := Nat.lt_of_lt_of_le hz3 hs.1; have hz04 : w.heap.size < w4.heap.size := Nat.lt_trans hB hz4; have p0 := hk40.c0; have p1 := hk40.c1; have q0 := hk41.c0; have q1 := hk41.c1; have yq1 := hk41.fz 1; have HVB := Lib.hid (Kd.R_mono (Kd.R_bound (Kd.R_lower hvb hz3)) (fun k hk => True.intro)); have HVB2 := Lib.hid hvb; clear ha hs hk40 hk41 hvb)
            | ((with_reducible refine gate_builtin (b := .append) (xs := #[.tmp 62, .tmp 64]) rfl ?_); at_builtin; refine Kd.R_append KBk (w0 := w4) (b1 + 1) rfl (.tmp 62) (.tmp 64) 29 36 (.agg #[(.slice none 0 0), (.int .u8 0), (.int .i64 0), (.int .i64 0), (.int .i64 0)]) 56 rfl Tryd.underlying29 infoBk rfl (by decide) (by omega) (.slice Av bs0.length cv) bs0 b [.slice Ab b.f0.length cb, .int .u8 b.f1.f0, .int .i64 b.f1.f1, .int .i64 b.f1.f2, .int .i64 b.f1.f3] (fun _ => True) (fun k => w3.heap.size ≤ k) rfl ?ax ?aP ?aK ?aF ?aO ?aB ?aS ?aL ?_; (case ax => simp [Act.eval]); (case aP => exact k36_mkM _ _ _ b (Kd.R_alloc (Kd.R_lower (Kd.R_mono (Kd.R_bound HVB2.out) (fun k hk => hk.2.1)) hz3) _)); (case aK => exact (fun k hk => ⟨trivial, fun e => by have := Kd.R_lt HV3.out k e.symm; omega⟩)); (case aF => exact (fun _ _ => trivial)); (case aO => exact Kd.R_alloc HV4.out _); (case aB => exact (Below.refl _ _).alloc hz4 _); (case aS => simp; omega); (case aL => omega); intro v9 w6 ho hb6 hg6 hat6; obtain ⟨A9, c9, rfl⟩ := Kd.R_slice ho; rw [List.length_append, List.length_singleton] at ho hat6; have hbx : w6.cell? ⟨w4.heap.size, 0, none⟩ = some (.slice Ab b.f0.length cb) := boxed hg6 (fun e => by have := Kd.R_lt HV4.out _ e.symm; omega); have HV6 := Lib.hid ho; have HA6 := Lib.hid (HA4.out.upon (hb6.mono (by omega)) hlt); have HS6 := Lib.hid (HS4.out.upon (hb6.mono (by omega))); have hk60 := HK40.out.block (hb6.block _ (by omega)); have hk61 := HK41.out.block (hb6.block _ (by omega)); have HK60 := Lib.hid hk60; have HK61 := Lib.hid hk61; clear p0 p1 q0 q1 yq1; have q1 := hk61.c1; have yq1 := hk61.fz 1; have hz6 : b1 < w6.heap.size := blk_lt hk61; clear ho hb6 hg6 hat6 hk60 hk61))
          go_roundg rest2.length
          case measure => simp; omega
          case rel => exact ⟨rest2, bs0 ++ [b], .slice A9 (bs0.length + 1) c9, rg + (b.f0.length : Int), k, rfl, rfl, by omega, by omega, by simp; omega, HQ2.out, HF2.out, HK60.out.block (Below.heap_setCell _ _ _ _ (Nat.ne_of_lt hB)), HK61.out.set1 _, HA6.out.set hltb _ _, HS6.out.set (Nat.le_of_lt hB) _ _, R_on HV6.out (Nat.lt_succ_self _) _ _, by rw [set_size]; exact hz6⟩
        · rw [if_neg (by intro e2; exact hr (List.eq_nil_of_length_eq_zero (by simpa using e2)))] at hq
          cases hq
end Go.Proofs.YtlghkomipboflaaDoor.Rd
end
section
namespace Go.Proofs.YtlghkomipboflaaDoor.Rd
open Go.RowKit Go.Proofs.YtlghkomipboflaaDoor Go.Proofs.YtlghkomipboflaaDoor.X Go.Proofs.YtlghkomipboflaaDoorW.PrintWords Go.Proofs.YtlghkomipboflaaDoorW.PrintLast Go.Proofs.YtlghkomipboflaaDoorW.PrintMore
set_option linter.unusedVariables false
set_option linter.unusedSimpArgs false
theorem len1 {n : Nat} {x : ByteArray} {r : List ByteArray} (hn : n = (x :: r).length) (hr : r ≠ []) : ((n : Int) == 1) = false := by
  rw [beq_eq_false_iff_ne]
  intro e
  rw [List.length_cons] at hn
  exact hr (List.eq_nil_of_length_eq_zero (by omega))
set_option maxHeartbeats 3200000 in
set_option maxRecDepth 100000 in
theorem fn_loop_b (wL : World) (hsh : ShTab wL) (ls : List (List ByteArray)) (hfine : Fine ls) (hlen : ls.length ≤ 1000000) (vt vf : Value) (w : World) (sig : Int) (b1 : Nat) (reg : Int) (hr0 : 0 ≤ reg) (hr1 : reg ≤ 1000000) (hlt : wL.heap.size < w.heap.size) (hk : blksF (ls.length + 1) reg ls [] = none) (a : Act) (hfr : Fr 73 [(0, pG wL), (2, pB w), (3, pQ b1), (4, .int .i64 reg)] a) (W : World) (h : Fh wL ls [] vt vf w sig b1 W) :
    Code.wp Tryd.prog (rights 5 c37) (bodyPost Tryd.prog Tryd.f37 (Gone wL w)) a W := by
  obtain ⟨us, hus, rfl⟩ := open73 a hfr.size hfr.no
  have e0 := hfr.val hus 0 _ (List.mem_cons_self)
  have e2 := hfr.val hus 2 _ (List.mem_cons_of_mem _ (List.mem_cons_self))
  have e3 := hfr.val hus 3 _ (List.mem_cons_of_mem _ (List.mem_cons_of_mem _ (List.mem_cons_self)))
  have e4 := hfr.val hus 4 _ (List.mem_cons_of_mem _ (List.mem_cons_of_mem _ (List.mem_cons_of_mem _ (List.mem_cons_self))))
  rw [e0, e2, e3, e4]
  clear e0 e2 e3 e4
  clear hfr hus
  have hB := h.lt
  have hz := blk_lt h.b1
  have H0 := Lib.hid h.b0
  have H1 := Lib.hid h.b1
  have HA := Lib.hid h.at_
  have HS := Lib.hid h.same
  have HSH := Lib.hid hsh
  have HK0 := Lib.hid hk
  have HF0 := Lib.hid hfine
  clear h hsh hk hfine
  have hltb : wL.heap.size < b1 := Nat.lt_trans hlt hB
  conv => arg 2; whnf
  go_wp2
  go_loopg [4] ls.length (fun g v4 Wr => ∃ (rest : List (List ByteArray)) (bs0 : List Bk) (v : Value) (rg : Int) (k : Nat), rest.length = g ∧ v4 = .int .i64 rg ∧ 0 ≤ rg ∧ rg + (rest.length : Int) ≤ 2000000 ∧ bs0.length + rest.length ≤ 1000000 ∧ rest.length < k ∧ Hid (blksF k rg rest bs0 = none) ∧ Hid (Fine rest) ∧ Hid (FB w.heap.size (.int .i64 0) (.slice none 0 0) Wr) ∧ Hid (FB b1 (.int .i64 sig) v Wr) ∧ Hid (At wL rest [] vt vf Wr) ∧ Hid (Same wL w Wr) ∧ Hid (KBk.R 36 Wr (b1 + 1) (fun _ => True) v bs0) ∧ b1 < Wr.heap.size)
  case atStart => exact ⟨ls, [], _, reg, _, rfl, rfl, hr0, by omega, by simpa using hlen, Nat.lt_succ_self _, HK0.out, HF0.out, H0.out, H1.out, HA.out, HS.out, Kd.R_nil _ _ _ _ _, hz⟩
  case round =>
    obtain ⟨rest, bs0, v, rg, k, hg, rfl, hg0, hg1, hl1, hkl, HQ, HF, H0r, H1r, HAr, HSr, HV, hBr⟩ := hrel
    subst hg
    obtain ⟨Av, cv, rfl⟩ := Kd.R_slice HV.out
    have p0 := H0r.out.c0
    have p1 := H0r.out.c1
    have q0 := H1r.out.c0
    have q1 := H1r.out.c1
    have yp0 := H0r.out.fz 0
    have yp1 := H0r.out.fz 1
    have yq0 := H1r.out.fz 0
    have yq1 := H1r.out.fz 1
    cases rest with
    | nil =>
      have := HQ.out
      cases k with
      | zero => exact absurd hkl (by simp)
      | succ k => have e : blksF (k + 1) rg [] bs0 = some (bs0, []) := rfl
                  rw [e] at this
                  cases this
    | cons l rest =>
      obtain ⟨hll, x, r, rfl, hx⟩ := HF.out l (List.mem_cons_self)
      cases hb : isBlk x with
      | false =>
        have := HQ.out
        cases k with
        | zero => exact absurd hkl (by simp)
        | succ k => have e : blksF (k + 1) rg ((x :: r) :: rest) bs0 = if isBlk x then (if (x :: r).length = 1 then (blkF rg rest []).bind fun q => blksF k (rg + (q.1.f0.length : Int)) q.2 (bs0 ++ [q.1]) else none) else some (bs0, (x :: r) :: rest) := rfl
                    rw [e, hb, if_neg (by simp)] at this
                    cases this
      | true =>
        have hq := HQ.out
        cases k with
        | zero => exact absurd hkl (by simp)
        | succ k =>
        have e : blksF (k + 1) rg ((x :: r) :: rest) bs0 = if isBlk x then (if (x :: r).length = 1 then (blkF rg rest []).bind fun q => blksF k (rg + (q.1.f0.length : Int)) q.2 (bs0 ++ [q.1]) else none) else some (bs0, (x :: r) :: rest) := rfl
        rw [e, hb, if_pos rfl] at hq
        by_cases hr : r = []
        · subst hr
          rw [if_pos (show [x].length = 1 from rfl)] at hq
          cases hbk : blkF rg rest [] with
          | none =>
            have HBK := Lib.hid hbk
            have HF1 : Hid (Fine rest) := Lib.hid (fun q hq => HF.out q (List.mem_cons_of_mem _ hq))
            have m1 : rest.length ≤ 1000000 := by simp at hl1; omega
            have m5 : rg ≤ 2000000 := by omega
            have eb : (x.toList == [98, 108, 111, 99, 107]) = true := hb
            clear hbk hq e hb
            go_wp2_with (first
              | (go_at_call 32; (with_reducible refine (first_cons wL x [] rest [] vt vf _ HAr.out).mono ?_); rintro e w2 ⟨rfl, rfl⟩)
              | (go_at_call 33; (with_reducible refine (next_cons wL [x] rest [] vt vf _ HAr.out).mono ?_); rintro e w3 ⟨rfl, ha, hs⟩; obtain ⟨A3, n3, c3, hn3, cw⟩ := cells_at0 ha; cases hn3; have HA3 := Lib.hid ha; have HS3 := Lib.hid (HSr.out.also hs); have HK30 := Lib.hid (H0r.out.same hs hlt); have HK31 := Lib.hid (H1r.out.same hs hltb); have HV3 := Lib.hid (R_same HV.out hs (Nat.lt_succ_of_lt hltb)); have hz3 : b1 < w3.heap.size := Nat.lt_of_lt_of_le hBr hs.1; clear ha hs)
              | (go_at_call 36; (with_reducible refine (need_yes _).mono ?_); rintro e w9 ⟨rfl, hw9⟩; subst w9)
              | (go_at_call 55; (with_reducible refine (blk_bad wL HSH.out rest HF1.out m1 [x] vt vf _ rg hg0 (by omega) HBK.out HA3.out).mono ?_); rintro e w4 ⟨rfl, hb4⟩))
            exact ⟨rfl, rfl, hb4⟩
          | some q =>
          obtain ⟨b, rest2⟩ := q
          rw [hbk, Option.bind_some] at hq
          obtain ⟨n1, n2, n3⟩ := blkF_rest _ _ _ _ _ hbk
          have HQ2 := Lib.hid hq
          have HBK := Lib.hid hbk
          have HF1 : Hid (Fine rest) := Lib.hid (fun q hq => HF.out q (List.mem_cons_of_mem _ hq))
          have HF2 : Hid (Fine rest2) := Lib.hid (fun q hq => HF1.out q (n3 q hq))
          have HN3 := Lib.hid n3
          have m1 : rest.length ≤ 1000000 := by simp at hl1; omega
          have m2 : rg + (b.f0.length : Int) + (rest2.length : Int) ≤ 2000000 := by simp at hg1 n2; omega
          have m3 : bs0.length + rest2.length + 1 ≤ 1000000 := by simp at hl1; omega
          have hwr : IntKind.i64.wrap (rg + (b.f0.length : Int)) = rg + (b.f0.length : Int) := by rw [IntKind.wrap_i64]; omega
          have eb : (x.toList == [98, 108, 111, 99, 107]) = true := hb
          have m4 : rest2.length < rest.length + 1 := by omega
          clear hbk hq e hb n1 n2 n3
          go_wp2_with (first
            | (go_at_call 32; (with_reducible refine (first_cons wL x [] rest [] vt vf _ HAr.out).mono ?_); rintro e w2 ⟨rfl, rfl⟩)
            | (go_at_call 33; (with_reducible refine (next_cons wL [x] rest [] vt vf _ HAr.out).mono ?_); rintro e w3 ⟨rfl, ha, hs⟩; obtain ⟨A3, n3, c3, hn3, cw⟩ := cells_at0 ha; cases hn3; have HA3 := Lib.hid ha; have HS3 := Lib.hid (HSr.out.also hs); have HK30 := Lib.hid (H0r.out.same hs hlt); have HK31 := Lib.hid (H1r.out.same hs hltb); have HV3 := Lib.hid (R_same HV.out hs (Nat.lt_succ_of_lt hltb)); have hz3 : b1 < w3.heap.size := Nat.lt_of_lt_of_le hBr hs.1; clear ha hs)
            | (go_at_call 36; (with_reducible refine (need_yes _).mono ?_); rintro e w9 ⟨rfl, hw9⟩; subst w9)
            | (go_at_call 55; (with_reducible refine (blk_ok wL HSH.out rest HF1.out m1 [x] vt vf _ rg hg0 (by omega) b rest2 HBK.out HA3.out).mono ?_); rintro e w4 ⟨vb, rfl, hvb, ha, hs⟩; obtain ⟨Ab, cb, rfl⟩ := Kd.R_slice hvb; clear p0 p1 q0 q1 yp0 yp1 yq0 yq1 cw; have HA4 := Lib.hid ha; have HS4 := Lib.hid (HS3.out.also hs); have hk40 := HK30.out.same hs hlt; have hk41 := HK31.out.same hs hltb; have HK40 := Lib.hid hk40; have HK41 := Lib.hid hk41; have HV4 := Lib.hid (R_same HV3.out hs (Nat.lt_succ_of_lt hltb)); have hz4 : b1 < w4.heap.size := Nat.lt_of_lt_of_le hz3 hs.1; have hz04 : w.heap.size < w4.heap.size := Nat.lt_trans hB hz4; have p0 := hk40.c0; have p1 := hk40.c1; have q0 := hk41.c0; have q1 := hk41.c1; have yq1 := hk41.fz 1; have HVB := Lib.hid (Kd.R_mono (Kd.R_bound (Kd.R_lower hvb hz3)) (fun k hk => True.intro)); have HVB2 := Lib.hid hvb; clear ha hs hk40 hk41 hvb)
            | ((with_reducible refine gate_builtin (b := .append) (xs := #[.tmp 62, .tmp 64]) rfl ?_); at_builtin; refine Kd.R_append KBk (w0 := w4) (b1 + 1) rfl (.tmp 62) (.tmp 64) 29 36 (.agg #[(.slice none 0 0), (.int .u8 0), (.int .i64 0), (.int .i64 0), (.int .i64 0)]) 56 rfl Tryd.underlying29 infoBk rfl (by decide) (by omega) (.slice Av bs0.length cv) bs0 b [.slice Ab b.f0.length cb, .int .u8 b.f1.f0, .int .i64 b.f1.f1, .int .i64 b.f1.f2, .int .i64 b.f1.f3] (fun _ => True) (fun k => w3.heap.size ≤ k) rfl ?ax ?aP ?aK ?aF ?aO ?aB ?aS ?aL ?_; (case ax => simp [Act.eval]); (case aP => exact k36_mkM _ _ _ b (Kd.R_alloc (Kd.R_lower (Kd.R_mono (Kd.R_bound HVB2.out) (fun k hk => hk.2.1)) hz3) _)); (case aK => exact (fun k hk => ⟨trivial, fun e => by have := Kd.R_lt HV3.out k e.symm; omega⟩)); (case aF => exact (fun _ _ => trivial)); (case aO => exact Kd.R_alloc HV4.out _); (case aB => exact (Below.refl _ _).alloc hz4 _); (case aS => simp; omega); (case aL => omega); intro v9 w6 ho hb6 hg6 hat6; obtain ⟨A9, c9, rfl⟩ := Kd.R_slice ho; rw [List.length_append, List.length_singleton] at ho hat6; have hbx : w6.cell? ⟨w4.heap.size, 0, none⟩ = some (.slice Ab b.f0.length cb) := boxed hg6 (fun e => by have := Kd.R_lt HV4.out _ e.symm; omega); have HV6 := Lib.hid ho; have HA6 := Lib.hid (HA4.out.upon (hb6.mono (by omega)) hlt); have HS6 := Lib.hid (HS4.out.upon (hb6.mono (by omega))); have hk60 := HK40.out.block (hb6.block _ (by omega)); have hk61 := HK41.out.block (hb6.block _ (by omega)); have HK60 := Lib.hid hk60; have HK61 := Lib.hid hk61; clear p0 p1 q0 q1 yq1; have q1 := hk61.c1; have yq1 := hk61.fz 1; have hz6 : b1 < w6.heap.size := blk_lt hk61; clear ho hb6 hg6 hat6 hk60 hk61))
          go_roundg rest2.length
          case measure => simp; omega
          case rel => exact ⟨rest2, bs0 ++ [b], .slice A9 (bs0.length + 1) c9, rg + (b.f0.length : Int), k, rfl, rfl, by omega, by omega, by simp; omega, by simp at hkl; omega, HQ2.out, HF2.out, HK60.out.block (Below.heap_setCell _ _ _ _ (Nat.ne_of_lt hB)), HK61.out.set1 _, HA6.out.set hltb _ _, HS6.out.set (Nat.le_of_lt hB) _ _, R_on HV6.out (Nat.lt_succ_self _) _ _, by rw [set_size]; exact hz6⟩
        · have eb : (x.toList == [98, 108, 111, 99, 107]) = true := hb
          clear hq e hb
          go_wp2_with (first
            | (go_at_call 32; (with_reducible refine (first_cons wL x r rest [] vt vf _ HAr.out).mono ?_); rintro e w2 ⟨rfl, rfl⟩)
            | (go_at_call 33; (with_reducible refine (next_cons wL (x :: r) rest [] vt vf _ HAr.out).mono ?_); rintro e w3 ⟨rfl, ha, hs⟩; obtain ⟨A3, n3, c3, hn3, cw⟩ := cells_at0 ha; have qq : ((n3 : Int) == 1) = false := len1 hn3 hr; have hab := ha.below; clear hn3; have HA3 := Lib.hid ha; have HS3 := Lib.hid (HSr.out.also hs); have HK30 := Lib.hid (H0r.out.same hs hlt); have HK31 := Lib.hid (H1r.out.same hs hltb); have HV3 := Lib.hid (R_same HV.out hs (Nat.lt_succ_of_lt hltb)); have hz3 : b1 < w3.heap.size := Nat.lt_of_lt_of_le hBr hs.1; clear ha hs)
            | (go_at_call 36; (with_reducible refine (need_no _).mono ?_); rintro e w9 ⟨rfl, hw9⟩; subst w9))
          exact ⟨rfl, rfl, hab⟩
theorem Fh.later {wL : World} {ls ws vt vf w sig b1 W W'} (h : Fh wL ls ws vt vf w sig b1 W) (hb : Below W.heap.size W W') : Fh wL ls ws vt vf w sig b1 W' :=
  ⟨h.lt, h.b0.block (hb.block _ (blk_lt h.b0)), h.b1.block (hb.block _ (blk_lt h.b1)), h.at_.later hb, h.same.later hb⟩
theorem regT_le (ts : List Tp) (hp : ∀ t ∈ ts, t.f3.length ≤ 1000000) (sig : Int) : 0 ≤ regT ts sig ∧ regT ts sig ≤ 1000000 := by
  unfold regT
  split
  · refine ⟨Int.natCast_nonneg _, ?_⟩
    unfold rd_T41
    rw [List.getD_eq_getElem?_getD]
    cases e : ts[sig.toNat]? with
    | none => decide
    | some t =>
      have := hp t (List.mem_of_getElem? e)
      simp only [Option.getD_some]
      omega
  · exact ⟨by omega, by omega⟩
theorem fn_ok (wL : World) (hsh : ShTab wL) (ts : List Tp) (hp : ∀ t ∈ ts, t.f3.length ≤ 1000000) (ls : List (List ByteArray)) (hfine : Fine ls) (hlen : ls.length ≤ 1000000) (ws : List ByteArray) (vt vf : Value) (w : World) (ht : KTp.R 41 w (wL.heap.size + 1) (fun _ => True) vt ts) (f : Fn) (ls1 : List (List ByteArray)) (hk : fnF ts ws ls = some (f, ls1)) (h : At wL ls ws vt vf w) :
    Calls Tryd.prog 37 #[pG wL] w (FnPost wL ls1 vt vf w f) := by
  have hlt := h.lt
  unfold fnF at hk
  rw [Option.bind_eq_some_iff] at hk
  obtain ⟨⟨sig, rr⟩, hm, hk⟩ := hk
  by_cases hr : rr = []
  · subst hr
    rw [if_pos rfl, Option.map_eq_some_iff] at hk
    obtain ⟨⟨bs, r⟩, hb, e⟩ := hk
    cases e
    refine enter37 wL w _ ?_
    rw [c37_cut]
    refine fn_head wL ls ws vt vf w sig [] hm h _ _ (fun b1 a W hfr hW => ?_)
    rw [c37_cut2]
    have hT : ∀ a W', Fr 73 [(0, pG wL), (2, pB w), (3, pQ b1), (4, .int .i64 (regT ts sig))] a → Below W.heap.size W W' → Code.wp Tryd.prog (rights 5 c37) (bodyPost Tryd.prog Tryd.f37 (FnPost wL r vt vf w ⟨sig, bs⟩)) a W' := fun a W' hf hB =>
      fn_loop wL hsh ls hfine hlen vt vf w sig b1 (regT ts sig) (regT_le ts hp sig).1 (regT_le ts hp sig).2 hlt bs r hb a hf W' (hW.later hB)
    by_cases hs : sig < (ts.length : Int)
    · exact fn_mid wL ls vt vf w sig b1 ts (mkN_nn hm) hs a hfr W (R_same ht hW.same (Nat.lt_succ_self _)) hW _ _ hT
    · exact fn_mid0 wL ls vt vf w sig b1 ts hs a hfr W (R_same ht hW.same (Nat.lt_succ_self _)) hW _ _ hT
  · rw [if_neg hr] at hk; cases hk
theorem fn_bad (wL : World) (hsh : ShTab wL) (ts : List Tp) (hp : ∀ t ∈ ts, t.f3.length ≤ 1000000) (ls : List (List ByteArray)) (hfine : Fine ls) (hlen : ls.length ≤ 1000000) (ws : List ByteArray) (vt vf : Value) (w : World) (ht : KTp.R 41 w (wL.heap.size + 1) (fun _ => True) vt ts) (hk : fnF ts ws ls = none) (h : At wL ls ws vt vf w) :
    Calls Tryd.prog 37 #[pG wL] w (Gone wL w) := by
  have hlt := h.lt
  unfold fnF at hk
  refine enter37 wL w _ ?_
  rw [c37_cut]
  cases hm : mkN 116 ws with
  | none => exact fn_head_b wL ls ws vt vf w hm h _
  | some q =>
  obtain ⟨sig, rr⟩ := q
  rw [hm, Option.bind_some] at hk
  refine fn_head wL ls ws vt vf w sig rr hm h _ _ (fun b1 a W hfr hW => ?_)
  rw [c37_cut2]
  by_cases hr : rr = []
  · subst hr
    rw [if_pos rfl, Option.map_eq_none_iff] at hk
    have hT : ∀ a W', Fr 73 [(0, pG wL), (2, pB w), (3, pQ b1), (4, .int .i64 (regT ts sig))] a → Below W.heap.size W W' → Code.wp Tryd.prog (rights 5 c37) (bodyPost Tryd.prog Tryd.f37 (Gone wL w)) a W' := fun a W' hf hB =>
      fn_loop_b wL hsh ls hfine hlen vt vf w sig b1 (regT ts sig) (regT_le ts hp sig).1 (regT_le ts hp sig).2 hlt hk a hf W' (hW.later hB)
    by_cases hs : sig < (ts.length : Int)
    · exact fn_mid wL ls vt vf w sig b1 ts (mkN_nn hm) hs a hfr W (R_same ht hW.same (Nat.lt_succ_self _)) hW _ _ hT
    · exact fn_mid0 wL ls vt vf w sig b1 ts hs a hfr W (R_same ht hW.same (Nat.lt_succ_self _)) hW _ _ hT
  · exact fn_mid_b wL ls rr hr vt vf w sig b1 a hfr W hW _
end Go.Proofs.YtlghkomipboflaaDoor.Rd
end
section
namespace Go.Proofs.YtlghkomipboflaaDoor.Rd
open Go.RowKit Go.Proofs.YtlghkomipboflaaDoor Go.Proofs.YtlghkomipboflaaDoor.X Go.Proofs.YtlghkomipboflaaDoorW.PrintWords Go.Proofs.YtlghkomipboflaaDoorW.PrintLast Go.Proofs.YtlghkomipboflaaDoorW.PrintMore
set_option linter.unusedVariables false
set_option linter.unusedSimpArgs false
def isTyp (x : ByteArray) : Bool := x.toList == [116, 121, 112, 101]
def isFun (x : ByteArray) : Bool := x.toList == [102, 117, 110, 99]
def typesF : List (List ByteArray) → List Tp → Option (List Tp × List (List ByteArray))
  | [], ts => some (ts, [])
  | l :: ls, ts => if isTyp (l.headD ⟨#[]⟩) then (kindF l.tail).bind fun p => if p.2 = [] then typesF ls (ts ++ [p.1]) else none else some (ts, l :: ls)
def funcsF (ts : List Tp) : Nat → List (List ByteArray) → List Fn → Option (List Fn)
  | 0, _, _ => none
  | _ + 1, [], fs => some fs
  | k + 1, l :: ls, fs => if isFun (l.headD ⟨#[]⟩) then (fnF ts l.tail ls).bind fun q => funcsF ts k q.2 (fs ++ [q.1]) else none
def progF (ls : List (List ByteArray)) : Option (List Tp × List Fn) :=
  (typesF ls []).bind fun p => (funcsF p.1 (p.2.length + 1) p.2 []).map fun fs => (p.1, fs)
theorem RB.set2' {g vl vw vt vf W} (h : RB g vl vw vt vf W) (v : Value) : RB g vl vw v vf (W.setCell ⟨g, 2, none⟩ v) := by unfold RB at h ⊢; rw [heap_set h]; rfl
theorem RB.set3' {g vl vw vt vf W} (h : RB g vl vw vt vf W) (v : Value) : RB g vl vw vt v (W.setCell ⟨g, 3, none⟩ v) := by unfold RB at h ⊢; rw [heap_set h]; rfl
theorem At.setT {wL : World} {ls ws vt vf W} (h : At wL ls ws vt vf W) (v : Value) : At wL ls ws v vf (W.setCell ⟨wL.heap.size, 2, none⟩ v) := by
  obtain ⟨vl, vw, hr, hl⟩ := h.rb
  exact ⟨h.below.setCell (Nat.le_refl _) _, vl, vw, hr.set2' v, hl⟩
theorem At.setF {wL : World} {ls ws vt vf W} (h : At wL ls ws vt vf W) (v : Value) : At wL ls ws vt v (W.setCell ⟨wL.heap.size, 3, none⟩ v) := by
  obtain ⟨vl, vw, hr, hl⟩ := h.rb
  exact ⟨h.below.setCell (Nat.le_refl _) _, vl, vw, hr.set3' v, hl⟩
noncomputable def c17 : Code := Tryd.f17.body.getD .skip
set_option maxRecDepth 100000 in
theorem c17_cut : c17 = cutAt 1 c17 (rights 1 c17) := by kernel_rfl
set_option maxRecDepth 100000 in
theorem enter17 (wL w : World) (R : Ending → World → Prop) (h : Code.wp Tryd.prog c17 (bodyPost Tryd.prog Tryd.f17 R) { tmps := #[pG wL, undef, undef, undef, undef, undef, undef, undef, undef, undef, undef, undef, undef, undef, undef, undef, undef, undef, undef, undef, undef, undef, undef, undef, undef, undef, undef, undef, undef, undef, undef, undef, undef, undef, undef, undef, undef, undef, undef, undef, undef, undef, undef, undef, undef, undef, undef, undef, undef, undef, undef, undef, undef, undef, undef, undef, undef, undef, undef, undef, undef], defers := [] } w) : Calls Tryd.prog 17 #[pG wL] w R := by
  go_enter Tryd.func17, Tryd.ntmps17
  exact h
end Go.Proofs.YtlghkomipboflaaDoor.Rd
end
section
namespace Go.Proofs.YtlghkomipboflaaDoor.Rd
open Go.RowKit Go.Proofs.YtlghkomipboflaaDoor Go.Proofs.YtlghkomipboflaaDoor.X Go.Proofs.YtlghkomipboflaaDoorW.PrintWords Go.Proofs.YtlghkomipboflaaDoorW.PrintLast Go.Proofs.YtlghkomipboflaaDoorW.PrintMore
set_option linter.unusedVariables false
set_option linter.unusedSimpArgs false
theorem S_same {α : Type} {d : Kd α} {e base : Nat} {ok : Nat → Prop} {v : Value} {xs : List α} {wL w w1 : World} (h : Kd.S d e w base ok v xs) (hs : Same wL w w1) (hg : wL.heap.size < base) : Kd.S d e w1 base ok v xs :=
  Kd.S_mono (Kd.S_step (Kd.S_bound h) (fun k hk hlt => hs.2 k hlt (by have := hk.2.1; omega) (by simp))) (fun _ hk => hk.1)
theorem S_on {α : Type} {d : Kd α} {e base : Nat} {ok : Nat → Prop} {v : Value} {xs : List α} {W : World} (h : Kd.S d e W base ok v xs) {b : Nat} (hb : b < base) (j : Nat) (u : Value) : Kd.S d e (W.setCell ⟨b, j, none⟩ u) base ok v xs :=
  Kd.S_mono (Kd.S_far (p := ⟨b, j, none⟩) (Kd.S_bound h) (fun k hk => by have := hk.2.1; show k ≠ b; omega) u) (fun _ hk => hk.1)
theorem infoTp : (Tryd.prog.info? 41).map (fun i => (i.zero, i.size, i.bytes)) = some (some (.agg #[(.int .u8 0), (.int .i64 0), (.int .i64 0), (.slice none 0 0)]), 4, 48) := by kernel_rfl
set_option maxHeartbeats 3200000 in
set_option maxRecDepth 100000 in
theorem prg1 (wL : World) (ls : List (List ByteArray)) (hfine : Fine ls) (hlen : ls.length ≤ 1000000) (vf : Value) (w : World) (ts1 : List Tp) (ls1 : List (List ByteArray)) (hk : typesF ls [] = some (ts1, ls1)) (h : At wL ls [] (.slice none 0 0) vf w) (T : Code) (R : Ending → World → Prop)
    (hT : ∀ v a W, Fr 61 [(0, pG wL)] a → At wL ls1 [] v vf W → Kd.S KTp 41 W (wL.heap.size + 1) (fun _ => True) v ts1 → Fine ls1 → ls1.length ≤ 1000000 → Code.wp Tryd.prog T (bodyPost Tryd.prog Tryd.f17 R) a W) :
    Code.wp Tryd.prog (cutAt 1 c17 T) (bodyPost Tryd.prog Tryd.f17 R) { tmps := #[pG wL, undef, undef, undef, undef, undef, undef, undef, undef, undef, undef, undef, undef, undef, undef, undef, undef, undef, undef, undef, undef, undef, undef, undef, undef, undef, undef, undef, undef, undef, undef, undef, undef, undef, undef, undef, undef, undef, undef, undef, undef, undef, undef, undef, undef, undef, undef, undef, undef, undef, undef, undef, undef, undef, undef, undef, undef, undef, undef, undef, undef], defers := [] } w := by
  have HA := Lib.hid h
  have HK0 := Lib.hid hk
  have HF0 := Lib.hid hfine
  have HT := Lib.hid hT
  have hz := h.lt
  clear h hk hfine hT
  conv => arg 2; whnf; arg 2; whnf
  go_wp2
  go_loopg [12] ls.length (fun g _ Wr => ∃ (rest : List (List ByteArray)) (ts : List Tp) (v : Value), rest.length = g ∧ Hid (typesF rest ts = some (ts1, ls1)) ∧ Hid (Fine rest) ∧ ts.length + rest.length ≤ 1000000 ∧ Hid (At wL rest [] v vf Wr) ∧ Hid (Kd.S KTp 41 Wr (wL.heap.size + 1) (fun _ => True) v ts) ∧ wL.heap.size < Wr.heap.size)
  case atStart => exact ⟨ls, [], _, rfl, HK0.out, HF0.out, by simpa using hlen, HA.out, Kd.S_nil _ _ _ _ _, hz⟩
  case round =>
    obtain ⟨rest, ts, v, hg, HQ, HF, hl1, HAr, HV, hBr⟩ := hrel
    subst hg
    obtain ⟨Av, cv, rfl⟩ := Kd.S_slice HV.out
    cases rest with
    | nil =>
      have hd : ts = ts1 ∧ ls1 = [] := by
        have := HQ.out
        cases this
        exact ⟨rfl, rfl⟩
      obtain ⟨rfl, rfl⟩ := hd
      go_wp2_with (go_at_call 32; (with_reducible refine (first_nil wL [] _ vf _ HAr.out).mono ?_); rintro e w2 ⟨rfl, rfl⟩)
      exact HT.out _ _ _ ⟨rfl, by intro p hp; simp only [List.mem_cons, List.not_mem_nil, or_false] at hp; rcases hp with rfl <;> rfl, rfl⟩ HAr.out HV.out (by intro l hl; cases hl) (by simp)
    | cons l rest =>
      obtain ⟨hll, x, r, rfl, hx⟩ := HF.out l (List.mem_cons_self)
      have e : typesF ((x :: r) :: rest) ts = if isTyp x then (kindF r).bind fun p => if p.2 = [] then typesF rest (ts ++ [p.1]) else none else some (ts, (x :: r) :: rest) := rfl
      have hq := HQ.out
      rw [e] at hq
      cases hb : isTyp x with
      | false =>
        rw [hb, if_neg (by simp)] at hq
        cases hq
        have eb : (x.toList == [116, 121, 112, 101]) = false := hb
        go_wp2_with (go_at_call 32; (with_reducible refine (first_cons wL x r rest [] _ vf _ HAr.out).mono ?_); rintro e w2 ⟨rfl, rfl⟩)
        exact HT.out _ _ _ ⟨rfl, by intro p hp; simp only [List.mem_cons, List.not_mem_nil, or_false] at hp; rcases hp with rfl <;> rfl, rfl⟩ HAr.out HV.out HF.out (by omega)
      | true =>
        rw [hb, if_pos rfl, Option.bind_eq_some_iff] at hq
        obtain ⟨⟨t, r0⟩, hkd, hq⟩ := hq
        by_cases hr : r0 = []
        · subst hr
          rw [if_pos rfl] at hq
          have HKD := Lib.hid hkd
          have HQ2 := Lib.hid hq
          have HF2 : Hid (Fine rest) := Lib.hid (fun q hq => HF.out q (List.mem_cons_of_mem _ hq))
          have hrl : r.length ≤ 1000000 := by simp at hll; omega
          have m1 : ts.length + rest.length + 1 ≤ 1000000 := by simp at hl1; omega
          have eb : (x.toList == [116, 121, 112, 101]) = true := hb
          clear hkd hq e hb
          go_wp2_with (first
            | (go_at_call 32; (with_reducible refine (first_cons wL x r rest [] _ vf _ HAr.out).mono ?_); rintro e w2 ⟨rfl, rfl⟩)
            | (go_at_call 33; (with_reducible refine (next_cons wL (x :: r) rest [] _ vf _ HAr.out).mono ?_); rintro e w3 ⟨rfl, ha, hs⟩; have HA3 := Lib.hid ha; have HV3 := Lib.hid (S_same HV.out hs (Nat.lt_succ_self _)); have hz3 := ha.lt; clear ha hs)
            | (go_at_call 34; (with_reducible refine (word_ok wL rest x r _ vf _ HA3.out).mono ?_); rintro e w4 ⟨rfl, ha, hs⟩; have HA4 := Lib.hid ha; have HV4 := Lib.hid (S_same HV3.out hs (Nat.lt_succ_self _)); have hz4 := ha.lt; obtain ⟨vl4, vw4, hr4, hl4⟩ := ha.rb; have k2 := hr4.c2; clear ha hs hr4 hl4))
          go_region_law (first
            | (refine Kd.S_append_step KTp (w0 := w5) (wL.heap.size + 1) (by rfl) (.tmp 22) (.tmp 25) 22 41 (.agg #[(.int .u8 0), (.int .i64 0), (.int .i64 0), (.slice none 0 0)]) 48 (by rfl) Tryd.underlying22 infoTp rfl (by decide) (by decide) (.slice Av ts.length cv) ts t [.int .u8 t.f0, .int .i64 t.f1, .int .i64 t.f2, .slice A3 t.f3.length c3] (fun _ => True) (fun k => w4.heap.size ≤ k) (by simp [Act.eval, Act.put]) (by simp [Act.eval, Act.put]) HM.out (fun k hk => ⟨trivial, fun e => by have := Kd.S_lt HV4.out k e.symm; omega⟩) (fun _ _ => trivial) HV5.out (Below.refl _ _) hz5 (by omega) ?_; intro v9 w6 ho hb6 hg6 hat6; obtain ⟨A9, c9, rfl⟩ := Kd.S_slice ho; rw [List.length_append, List.length_singleton] at ho hat6; have HV6 := Lib.hid ho; have HA6 := Lib.hid (HA5.out.moved (hb6.mono (Nat.le_succ _)) (hb6.block _ (Nat.lt_succ_self _))); clear k2 y2; obtain ⟨vl6, vw6, hr6, hl6⟩ := HA6.out.rb; have k2 := hr6.c2; have y2 := hr6.fz 2; clear ho hb6 hg6 hat6 hr6 hl6)
            | (go_simp; go_at_call 35; refine (kind_ok wL rest r t [] HKD.out hrl _ vf _ (HA4.out.drewN _)).mono ?_; rintro e w5 ⟨v3, rfl, h3, ha, hs⟩; obtain ⟨A3, c3, rfl⟩ := Kd.R_slice h3; have HA5 := Lib.hid ha; have HV5 := Lib.hid (S_same (ok := fun k => True ∧ ¬ w4.heap.size ≤ k) (Kd.S_mono (Kd.S_bound HV4.out) (fun k hk => ⟨trivial, by have := hk.2.2.1; omega⟩)) hs (Nat.lt_succ_self _)); have hz5 := ha.lt; obtain ⟨vl5, vw5, hr5, hl5⟩ := ha.rb; have k2 := hr5.c2; have y2 := hr5.fz 2; have HM := Lib.hid (k41_mkM w5 (wL.heap.size + 1) (fun k => w4.heap.size ≤ k) t (Kd.R_lower (Kd.R_mono (Kd.R_bound h3) (fun k hk => hk.2.1)) hz4)); clear ha hs hr5 hl5 h3))
          all_goals
            have ha7 := HA6.out.setT (.slice A9 (ts.length + 1) c9)
            have hv7 := S_on HV6.out (Nat.lt_succ_self _) 2 (.slice A9 (ts.length + 1) c9)
            clear k2 y2
            generalize w6.setCell ⟨wL.heap.size, 2, none⟩ (.slice A9 (ts.length + 1) c9) = w7 at ha7 hv7 ⊢
            have HA7 := Lib.hid ha7
            have HV7 := Lib.hid hv7
            have hz7 := ha7.lt
            obtain ⟨A8, n8, c8, hn8, cw8⟩ := cells_at0 ha7
            cases hn8
            clear ha7 hv7
            go_wp2_with (go_at_call 36; (with_reducible refine (need_yes _).mono ?_); rintro e w9 ⟨rfl, rfl⟩)
            go_roundg rest.length
            case measure => simp
            case rel => exact ⟨rest, ts ++ [t], .slice A9 (ts.length + 1) c9, rfl, HQ2.out, HF2.out, by simp; omega, HA7.out, HV7.out, hz7⟩
        · rw [if_neg hr] at hq; cases hq
end Go.Proofs.YtlghkomipboflaaDoor.Rd
end
section
namespace Go.Proofs.YtlghkomipboflaaDoor.Rd
open Go.RowKit Go.Proofs.YtlghkomipboflaaDoor Go.Proofs.YtlghkomipboflaaDoor.X Go.Proofs.YtlghkomipboflaaDoorW.PrintWords Go.Proofs.YtlghkomipboflaaDoorW.PrintLast Go.Proofs.YtlghkomipboflaaDoorW.PrintMore
set_option linter.unusedVariables false
set_option linter.unusedSimpArgs false
set_option maxHeartbeats 3200000 in
set_option maxRecDepth 100000 in
theorem prg1_b (wL : World) (ls : List (List ByteArray)) (hfine : Fine ls) (hlen : ls.length ≤ 1000000) (vf : Value) (w : World) (hk : typesF ls [] = none) (h : At wL ls [] (.slice none 0 0) vf w) (T : Code) :
    Code.wp Tryd.prog (cutAt 1 c17 T) (bodyPost Tryd.prog Tryd.f17 (Gone wL w)) { tmps := #[pG wL, undef, undef, undef, undef, undef, undef, undef, undef, undef, undef, undef, undef, undef, undef, undef, undef, undef, undef, undef, undef, undef, undef, undef, undef, undef, undef, undef, undef, undef, undef, undef, undef, undef, undef, undef, undef, undef, undef, undef, undef, undef, undef, undef, undef, undef, undef, undef, undef, undef, undef, undef, undef, undef, undef, undef, undef, undef, undef, undef, undef], defers := [] } w := by
  have HA := Lib.hid h
  have HK0 := Lib.hid hk
  have HF0 := Lib.hid hfine
  have hz := h.lt
  clear h hk hfine
  conv => arg 2; whnf
  go_wp2
  go_loopg [12] ls.length (fun g _ Wr => ∃ (rest : List (List ByteArray)) (ts : List Tp) (v : Value), rest.length = g ∧ Hid (typesF rest ts = none) ∧ Hid (Fine rest) ∧ ts.length + rest.length ≤ 1000000 ∧ Hid (At wL rest [] v vf Wr) ∧ Hid (Kd.S KTp 41 Wr (wL.heap.size + 1) (fun _ => True) v ts) ∧ wL.heap.size < Wr.heap.size)
  case atStart => exact ⟨ls, [], _, rfl, HK0.out, HF0.out, by simpa using hlen, HA.out, Kd.S_nil _ _ _ _ _, hz⟩
  case round =>
    obtain ⟨rest, ts, v, hg, HQ, HF, hl1, HAr, HV, hBr⟩ := hrel
    subst hg
    obtain ⟨Av, cv, rfl⟩ := Kd.S_slice HV.out
    cases rest with
    | nil =>
      have := HQ.out
      cases this
    | cons l rest =>
      obtain ⟨hll, x, r, rfl, hx⟩ := HF.out l (List.mem_cons_self)
      have e : typesF ((x :: r) :: rest) ts = if isTyp x then (kindF r).bind fun p => if p.2 = [] then typesF rest (ts ++ [p.1]) else none else some (ts, (x :: r) :: rest) := rfl
      have hq := HQ.out
      rw [e] at hq
      cases hb : isTyp x with
      | false =>
        rw [hb, if_neg (by simp)] at hq
        cases hq
      | true =>
        rw [hb, if_pos rfl] at hq
        cases hkd : kindF r with
        | none =>
          have HKD := Lib.hid hkd
          have hrl : r.length ≤ 1000000 := by simp at hll; omega
          have m1 : ts.length + rest.length + 1 ≤ 1000000 := by simp at hl1; omega
          have eb : (x.toList == [116, 121, 112, 101]) = true := hb
          clear hkd hq e hb
          go_wp2_with (first
            | (go_at_call 32; (with_reducible refine (first_cons wL x r rest [] _ vf _ HAr.out).mono ?_); rintro e w2 ⟨rfl, rfl⟩)
            | (go_at_call 33; (with_reducible refine (next_cons wL (x :: r) rest [] _ vf _ HAr.out).mono ?_); rintro e w3 ⟨rfl, ha, hs⟩; have HA3 := Lib.hid ha; have HV3 := Lib.hid (S_same HV.out hs (Nat.lt_succ_self _)); have hz3 := ha.lt; clear ha hs)
            | (go_at_call 34; (with_reducible refine (word_ok wL rest x r _ vf _ HA3.out).mono ?_); rintro e w4 ⟨rfl, ha, hs⟩; have HA4 := Lib.hid ha; have HV4 := Lib.hid (S_same HV3.out hs (Nat.lt_succ_self _)); have hz4 := ha.lt; obtain ⟨vl4, vw4, hr4, hl4⟩ := ha.rb; have k2 := hr4.c2; clear ha hs hr4 hl4))
          go_region_law (go_simp; go_at_call 35; refine (kind_bad wL rest r HKD.out hrl _ vf _ (HA4.out.drewN _)).mono ?_; rintro e w5 ⟨rfl, hb5⟩; refine gone_dummy (w := w) ⟨rfl, rfl, hb5⟩ ?_)
          all_goals trivial
        | some q =>
        obtain ⟨t, r0⟩ := q
        rw [hkd, Option.bind_some] at hq
        by_cases hr : r0 = []
        · subst hr
          rw [if_pos rfl] at hq
          have HKD := Lib.hid hkd
          have HQ2 := Lib.hid hq
          have HF2 : Hid (Fine rest) := Lib.hid (fun q hq => HF.out q (List.mem_cons_of_mem _ hq))
          have hrl : r.length ≤ 1000000 := by simp at hll; omega
          have m1 : ts.length + rest.length + 1 ≤ 1000000 := by simp at hl1; omega
          have eb : (x.toList == [116, 121, 112, 101]) = true := hb
          clear hkd hq e hb
          go_wp2_with (first
            | (go_at_call 32; (with_reducible refine (first_cons wL x r rest [] _ vf _ HAr.out).mono ?_); rintro e w2 ⟨rfl, rfl⟩)
            | (go_at_call 33; (with_reducible refine (next_cons wL (x :: r) rest [] _ vf _ HAr.out).mono ?_); rintro e w3 ⟨rfl, ha, hs⟩; have HA3 := Lib.hid ha; have HV3 := Lib.hid (S_same HV.out hs (Nat.lt_succ_self _)); have hz3 := ha.lt; clear ha hs)
            | (go_at_call 34; (with_reducible refine (word_ok wL rest x r _ vf _ HA3.out).mono ?_); rintro e w4 ⟨rfl, ha, hs⟩; have HA4 := Lib.hid ha; have HV4 := Lib.hid (S_same HV3.out hs (Nat.lt_succ_self _)); have hz4 := ha.lt; obtain ⟨vl4, vw4, hr4, hl4⟩ := ha.rb; have k2 := hr4.c2; clear ha hs hr4 hl4))
          go_region_law (first
            | (refine Kd.S_append_step KTp (w0 := w5) (wL.heap.size + 1) (by rfl) (.tmp 22) (.tmp 25) 22 41 (.agg #[(.int .u8 0), (.int .i64 0), (.int .i64 0), (.slice none 0 0)]) 48 (by rfl) Tryd.underlying22 infoTp rfl (by decide) (by decide) (.slice Av ts.length cv) ts t [.int .u8 t.f0, .int .i64 t.f1, .int .i64 t.f2, .slice A3 t.f3.length c3] (fun _ => True) (fun k => w4.heap.size ≤ k) (by simp [Act.eval, Act.put]) (by simp [Act.eval, Act.put]) HM.out (fun k hk => ⟨trivial, fun e => by have := Kd.S_lt HV4.out k e.symm; omega⟩) (fun _ _ => trivial) HV5.out (Below.refl _ _) hz5 (by omega) ?_; intro v9 w6 ho hb6 hg6 hat6; obtain ⟨A9, c9, rfl⟩ := Kd.S_slice ho; rw [List.length_append, List.length_singleton] at ho hat6; have HV6 := Lib.hid ho; have HA6 := Lib.hid (HA5.out.moved (hb6.mono (Nat.le_succ _)) (hb6.block _ (Nat.lt_succ_self _))); clear k2 y2; obtain ⟨vl6, vw6, hr6, hl6⟩ := HA6.out.rb; have k2 := hr6.c2; have y2 := hr6.fz 2; clear ho hb6 hg6 hat6 hr6 hl6)
            | (go_simp; go_at_call 35; refine (kind_ok wL rest r t [] HKD.out hrl _ vf _ (HA4.out.drewN _)).mono ?_; rintro e w5 ⟨v3, rfl, h3, ha, hs⟩; obtain ⟨A3, c3, rfl⟩ := Kd.R_slice h3; have HA5 := Lib.hid ha; have HV5 := Lib.hid (S_same (ok := fun k => True ∧ ¬ w4.heap.size ≤ k) (Kd.S_mono (Kd.S_bound HV4.out) (fun k hk => ⟨trivial, by have := hk.2.2.1; omega⟩)) hs (Nat.lt_succ_self _)); have hz5 := ha.lt; obtain ⟨vl5, vw5, hr5, hl5⟩ := ha.rb; have k2 := hr5.c2; have y2 := hr5.fz 2; have HM := Lib.hid (k41_mkM w5 (wL.heap.size + 1) (fun k => w4.heap.size ≤ k) t (Kd.R_lower (Kd.R_mono (Kd.R_bound h3) (fun k hk => hk.2.1)) hz4)); clear ha hs hr5 hl5 h3))
          all_goals
            have ha7 := HA6.out.setT (.slice A9 (ts.length + 1) c9)
            have hv7 := S_on HV6.out (Nat.lt_succ_self _) 2 (.slice A9 (ts.length + 1) c9)
            clear k2 y2
            generalize w6.setCell ⟨wL.heap.size, 2, none⟩ (.slice A9 (ts.length + 1) c9) = w7 at ha7 hv7 ⊢
            have HA7 := Lib.hid ha7
            have HV7 := Lib.hid hv7
            have hz7 := ha7.lt
            obtain ⟨A8, n8, c8, hn8, cw8⟩ := cells_at0 ha7
            cases hn8
            clear ha7 hv7
            go_wp2_with (go_at_call 36; (with_reducible refine (need_yes _).mono ?_); rintro e w9 ⟨rfl, rfl⟩)
            go_roundg rest.length
            case measure => simp
            case rel => exact ⟨rest, ts ++ [t], .slice A9 (ts.length + 1) c9, rfl, HQ2.out, HF2.out, by simp; omega, HA7.out, HV7.out, hz7⟩
        · have HKD := Lib.hid hkd
          have hrl : r.length ≤ 1000000 := by simp at hll; omega
          have m1 : ts.length + rest.length + 1 ≤ 1000000 := by simp at hl1; omega
          have eb : (x.toList == [116, 121, 112, 101]) = true := hb
          clear hkd hq e hb
          go_wp2_with (first
            | (go_at_call 32; (with_reducible refine (first_cons wL x r rest [] _ vf _ HAr.out).mono ?_); rintro e w2 ⟨rfl, rfl⟩)
            | (go_at_call 33; (with_reducible refine (next_cons wL (x :: r) rest [] _ vf _ HAr.out).mono ?_); rintro e w3 ⟨rfl, ha, hs⟩; have HA3 := Lib.hid ha; have HV3 := Lib.hid (S_same HV.out hs (Nat.lt_succ_self _)); have hz3 := ha.lt; clear ha hs)
            | (go_at_call 34; (with_reducible refine (word_ok wL rest x r _ vf _ HA3.out).mono ?_); rintro e w4 ⟨rfl, ha, hs⟩; have HA4 := Lib.hid ha; have HV4 := Lib.hid (S_same HV3.out hs (Nat.lt_succ_self _)); have hz4 := ha.lt; obtain ⟨vl4, vw4, hr4, hl4⟩ := ha.rb; have k2 := hr4.c2; clear ha hs hr4 hl4))
          go_region_law (first
            | (refine Kd.S_append_step KTp (w0 := w5) (wL.heap.size + 1) (by rfl) (.tmp 22) (.tmp 25) 22 41 (.agg #[(.int .u8 0), (.int .i64 0), (.int .i64 0), (.slice none 0 0)]) 48 (by rfl) Tryd.underlying22 infoTp rfl (by decide) (by decide) (.slice Av ts.length cv) ts t [.int .u8 t.f0, .int .i64 t.f1, .int .i64 t.f2, .slice A3 t.f3.length c3] (fun _ => True) (fun k => w4.heap.size ≤ k) (by simp [Act.eval, Act.put]) (by simp [Act.eval, Act.put]) HM.out (fun k hk => ⟨trivial, fun e => by have := Kd.S_lt HV4.out k e.symm; omega⟩) (fun _ _ => trivial) HV5.out (Below.refl _ _) hz5 (by omega) ?_; intro v9 w6 ho hb6 hg6 hat6; obtain ⟨A9, c9, rfl⟩ := Kd.S_slice ho; rw [List.length_append, List.length_singleton] at ho hat6; have HV6 := Lib.hid ho; have HA6 := Lib.hid (HA5.out.moved (hb6.mono (Nat.le_succ _)) (hb6.block _ (Nat.lt_succ_self _))); clear k2 y2; obtain ⟨vl6, vw6, hr6, hl6⟩ := HA6.out.rb; have k2 := hr6.c2; have y2 := hr6.fz 2; clear ho hb6 hg6 hat6 hr6 hl6)
            | (go_simp; go_at_call 35; refine (kind_ok wL rest r t r0 HKD.out hrl _ vf _ (HA4.out.drewN _)).mono ?_; rintro e w5 ⟨v3, rfl, h3, ha, hs⟩; obtain ⟨A3, c3, rfl⟩ := Kd.R_slice h3; have HA5 := Lib.hid ha; have HV5 := Lib.hid (S_same (ok := fun k => True ∧ ¬ w4.heap.size ≤ k) (Kd.S_mono (Kd.S_bound HV4.out) (fun k hk => ⟨trivial, by have := hk.2.2.1; omega⟩)) hs (Nat.lt_succ_self _)); have hz5 := ha.lt; obtain ⟨vl5, vw5, hr5, hl5⟩ := ha.rb; have k2 := hr5.c2; have y2 := hr5.fz 2; have HM := Lib.hid (k41_mkM w5 (wL.heap.size + 1) (fun k => w4.heap.size ≤ k) t (Kd.R_lower (Kd.R_mono (Kd.R_bound h3) (fun k hk => hk.2.1)) hz4)); clear ha hs hr5 hl5 h3))
          all_goals
            have ha7 := HA6.out.setT (.slice A9 (ts.length + 1) c9)
            have hv7 := S_on HV6.out (Nat.lt_succ_self _) 2 (.slice A9 (ts.length + 1) c9)
            clear k2 y2
            generalize w6.setCell ⟨wL.heap.size, 2, none⟩ (.slice A9 (ts.length + 1) c9) = w7 at ha7 hv7 ⊢
            have HA7 := Lib.hid ha7
            have HV7 := Lib.hid hv7
            have hz7 := ha7.lt
            obtain ⟨A8, n8, c8, hn8, cw8⟩ := cells_at0 ha7
            have q0 : ((n8 : Int) == 0) = false := len_ne hn8 hr
            have hab := ha7.below
            clear hn8 ha7 hv7
            go_wp2_with (go_at_call 36; (with_reducible refine (need_no _).mono ?_); rintro e w9 ⟨rfl, rfl⟩)
            exact ⟨rfl, rfl, hab⟩
end Go.Proofs.YtlghkomipboflaaDoor.Rd
end
section
namespace Go.Proofs.YtlghkomipboflaaDoor.Rd
open Go.RowKit Go.Proofs.YtlghkomipboflaaDoor Go.Proofs.YtlghkomipboflaaDoor.X Go.Proofs.YtlghkomipboflaaDoorW.PrintWords Go.Proofs.YtlghkomipboflaaDoorW.PrintLast Go.Proofs.YtlghkomipboflaaDoorW.PrintMore
set_option linter.unusedVariables false
set_option linter.unusedSimpArgs false
abbrev KFn : Kd Fn := k31
theorem infoFn : (Tryd.prog.info? 31).map (fun i => (i.zero, i.size, i.bytes)) = some (some (.agg #[(.int .i64 0), (.slice none 0 0)]), 2, 32) := by kernel_rfl
theorem blksF_rest : ∀ (k : Nat) (reg : Int) (ls : List (List ByteArray)) (bs bs1 : List Bk) (r : List (List ByteArray)), blksF k reg ls bs = some (bs1, r) → r.length ≤ ls.length ∧ ∀ l ∈ r, l ∈ ls
  | 0, _, _, _, _, _, h => by cases h
  | k + 1, reg, [], bs, bs1, r, h => by
    have e : blksF (k + 1) reg [] bs = some (bs, []) := rfl
    rw [e] at h
    cases h
    exact ⟨Nat.le_refl _, fun _ h => h⟩
  | k + 1, reg, l :: ls, bs, bs1, r, h => by
    have e : blksF (k + 1) reg (l :: ls) bs = if isBlk (l.headD ⟨#[]⟩) then (if l.length = 1 then (blkF reg ls []).bind fun q => blksF k (reg + (q.1.f0.length : Int)) q.2 (bs ++ [q.1]) else none) else some (bs, l :: ls) := rfl
    rw [e] at h
    split at h
    · split at h
      · rw [Option.bind_eq_some_iff] at h
        obtain ⟨⟨b, r2⟩, hb, h⟩ := h
        obtain ⟨n1, _, n3⟩ := blkF_rest _ _ _ _ _ hb
        obtain ⟨i1, i2⟩ := blksF_rest k _ _ _ _ _ h
        simp only at i1 i2
        exact ⟨by simp; omega, fun q hq => List.mem_cons_of_mem _ (n3 q (i2 q hq))⟩
      · cases h
    · cases h
      exact ⟨Nat.le_refl _, fun _ h => h⟩
theorem fnF_rest (ts : List Tp) (ws : List ByteArray) (ls : List (List ByteArray)) (f : Fn) (r : List (List ByteArray)) (h : fnF ts ws ls = some (f, r)) : r.length ≤ ls.length ∧ ∀ l ∈ r, l ∈ ls := by
  unfold fnF at h
  rw [Option.bind_eq_some_iff] at h
  obtain ⟨p, _, h⟩ := h
  split at h
  · rw [Option.map_eq_some_iff] at h
    obtain ⟨⟨bs, r1⟩, hb, e⟩ := h
    cases e
    exact blksF_rest _ _ _ _ _ _ hb
  · cases h
def ProgPost (wL : World) (ts : List Tp) (fs : List Fn) (e : Ending) (w' : World) : Prop :=
  ∃ vt vf, e = .returned (.tuple #[]) ∧ At wL [] [] vt vf w' ∧ Kd.S KTp 41 w' (wL.heap.size + 1) (fun _ => True) vt ts ∧ KFn.R 31 w' (wL.heap.size + 1) (fun _ => True) vf fs
set_option maxRecDepth 100000 in
theorem open61 (a : Act) (hs : a.tmps.size = 61) (hd : a.defers = []) : ∃ us : Nat → Value, (∀ i, us i = a.tmps.toList.getD i undef) ∧ a = { tmps := #[us 0, us 1, us 2, us 3, us 4, us 5, us 6, us 7, us 8, us 9, us 10, us 11, us 12, us 13, us 14, us 15, us 16, us 17, us 18, us 19, us 20, us 21, us 22, us 23, us 24, us 25, us 26, us 27, us 28, us 29, us 30, us 31, us 32, us 33, us 34, us 35, us 36, us 37, us 38, us 39, us 40, us 41, us 42, us 43, us 44, us 45, us 46, us 47, us 48, us 49, us 50, us 51, us 52, us 53, us 54, us 55, us 56, us 57, us 58, us 59, us 60], defers := [] } := by
  refine ⟨fun i => a.tmps.toList.getD i undef, fun _ => rfl, ?_⟩
  cases a with
  | mk tmps defers =>
    simp only at hs hd
    subst hd
    have hl : tmps.toList.length = 61 := by simpa using hs
    have e := list_all' tmps.toList
    rw [hl] at e
    generalize hll : tmps.toList = l at e
    have e2 : (List.range 61).map (fun i => l.getD i undef) = [l.getD 0 undef, l.getD 1 undef, l.getD 2 undef, l.getD 3 undef, l.getD 4 undef, l.getD 5 undef, l.getD 6 undef, l.getD 7 undef, l.getD 8 undef, l.getD 9 undef, l.getD 10 undef, l.getD 11 undef, l.getD 12 undef, l.getD 13 undef, l.getD 14 undef, l.getD 15 undef, l.getD 16 undef, l.getD 17 undef, l.getD 18 undef, l.getD 19 undef, l.getD 20 undef, l.getD 21 undef, l.getD 22 undef, l.getD 23 undef, l.getD 24 undef, l.getD 25 undef, l.getD 26 undef, l.getD 27 undef, l.getD 28 undef, l.getD 29 undef, l.getD 30 undef, l.getD 31 undef, l.getD 32 undef, l.getD 33 undef, l.getD 34 undef, l.getD 35 undef, l.getD 36 undef, l.getD 37 undef, l.getD 38 undef, l.getD 39 undef, l.getD 40 undef, l.getD 41 undef, l.getD 42 undef, l.getD 43 undef, l.getD 44 undef, l.getD 45 undef, l.getD 46 undef, l.getD 47 undef, l.getD 48 undef, l.getD 49 undef, l.getD 50 undef, l.getD 51 undef, l.getD 52 undef, l.getD 53 undef, l.getD 54 undef, l.getD 55 undef, l.getD 56 undef, l.getD 57 undef, l.getD 58 undef, l.getD 59 undef, l.getD 60 undef] := rfl
    rw [e2] at e
    congr 1
    have e3 : tmps = tmps.toList.toArray := by simp
    rw [e3, hll]
    conv => lhs; rw [e]
set_option maxHeartbeats 3200000 in
set_option maxRecDepth 100000 in
theorem prg2 (wL : World) (hsh : ShTab wL) (ts : List Tp) (hp : ∀ t ∈ ts, t.f3.length ≤ 1000000) (ls : List (List ByteArray)) (hfine : Fine ls) (hlen : ls.length ≤ 1000000) (v : Value) (w : World) (fs : List Fn) (hk : funcsF ts (ls.length + 1) ls [] = some fs) (a : Act) (hfr : Fr 61 [(0, pG wL)] a) (W : World) (h : At wL ls [] v (.slice none 0 0) W) (hS : Kd.S KTp 41 W (wL.heap.size + 1) (fun _ => True) v ts) :
    Code.wp Tryd.prog (rights 1 c17) (bodyPost Tryd.prog Tryd.f17 (ProgPost wL ts fs)) a W := by
  obtain ⟨us, hus, rfl⟩ := open61 a hfr.size hfr.no
  have e0 := hfr.val hus 0 _ (List.mem_cons_self)
  rw [e0]
  clear e0
  clear hfr hus
  have hz := h.lt
  obtain ⟨N, hN⟩ : ∃ N, N = W.heap.size := ⟨_, rfl⟩
  have hltN : wL.heap.size < N := by omega
  have hN1 : N ≤ W.heap.size := by omega
  have HS := Lib.hid (Kd.S_mono (ok' := fun k => k < N) (Kd.S_bound hS) (fun k hk => by rw [hN]; exact hk.2.2.1))
  have HA := Lib.hid h
  have HSH := Lib.hid hsh
  have HP := Lib.hid hp
  have HK0 := Lib.hid hk
  have HF0 := Lib.hid hfine
  clear h hsh hk hfine hS hp hN
  conv => arg 2; whnf
  go_wp2
  go_loopg [41] ls.length (fun g _ Wr => ∃ (rest : List (List ByteArray)) (fs0 : List Fn) (vf : Value) (k : Nat), rest.length = g ∧ Hid (funcsF ts k rest fs0 = some fs) ∧ Hid (Fine rest) ∧ fs0.length + rest.length ≤ 1000000 ∧ Hid (At wL rest [] v vf Wr) ∧ Hid (Kd.S KTp 41 Wr (wL.heap.size + 1) (fun k => k < N) v ts) ∧ Hid (KFn.R 31 Wr N (fun _ => True) vf fs0) ∧ N ≤ Wr.heap.size)
  case atStart => exact ⟨ls, [], _, _, rfl, HK0.out, HF0.out, by simpa using hlen, HA.out, HS.out, Kd.R_nil _ _ _ _ _, hN1⟩
  case round =>
    obtain ⟨rest, fs0, vf, k, hg, HQ, HF, hl1, HAr, HSr, HV, hBr⟩ := hrel
    subst hg
    obtain ⟨Af, cf, rfl⟩ := Kd.R_slice HV.out
    clear hN1 hz HA HS HK0 HF0
    cases rest with
    | nil =>
      have hd : fs0 = fs := by
        have := HQ.out
        cases k with
        | zero => cases this
        | succ k => cases this; rfl
      have HD := Lib.hid hd
      clear hd
      go_wp2_with (go_at_call 33; (with_reducible refine (next_nil wL [] _ _ _ HAr.out).mono ?_); rintro e w2 ⟨rfl, hw2⟩; subst w2)
      go_end0
      exact ⟨v, _, rfl, HAr.out, Kd.S_mono HSr.out (fun _ _ => trivial), Kd.R_lower (by rw [← HD.out]; exact HV.out) (Nat.succ_le_of_lt hltN)⟩
    | cons l rest =>
      obtain ⟨hll, x, r, rfl, hx⟩ := HF.out l (List.mem_cons_self)
      have hq := HQ.out
      cases k with
      | zero => cases hq
      | succ k =>
      have e : funcsF ts (k + 1) ((x :: r) :: rest) fs0 = if isFun x then (fnF ts r rest).bind fun q => funcsF ts k q.2 (fs0 ++ [q.1]) else none := rfl
      rw [e] at hq
      cases hb : isFun x with
      | false => rw [hb, if_neg (by simp)] at hq; cases hq
      | true =>
        rw [hb, if_pos rfl, Option.bind_eq_some_iff] at hq
        obtain ⟨⟨f, rest2⟩, hfk, hq⟩ := hq
        obtain ⟨n1, n2⟩ := fnF_rest _ _ _ _ _ hfk
        have HQ2 := Lib.hid hq
        have HFK := Lib.hid hfk
        have HF1 : Hid (Fine rest) := Lib.hid (fun q hq => HF.out q (List.mem_cons_of_mem _ hq))
        have m0 : rest.length ≤ 1000000 := by simp at hl1; omega
        have HF2 : Hid (Fine rest2) := Lib.hid (fun q hq => HF1.out q (n2 q hq))
        have m1 : fs0.length + rest2.length + 1 ≤ 1000000 := by simp at hl1; omega
        have m4 : rest2.length < rest.length + 1 := by omega
        have eb : (x.toList == [102, 117, 110, 99]) = true := hb
        clear hfk hq e hb n2
        go_wp2_with (first
          | (go_at_call 33; (with_reducible refine (next_cons wL (x :: r) rest [] _ _ _ HAr.out).mono ?_); rintro e w3 ⟨rfl, ha, hs⟩; have HA3 := Lib.hid ha; have HS3 := Lib.hid (S_same HSr.out hs (Nat.lt_succ_self _)); have HV3 := Lib.hid (R_same HV.out hs hltN); have hz3 : N ≤ w3.heap.size := Nat.le_trans hBr hs.1; clear ha hs)
          | (go_at_call 34; (with_reducible refine (word_ok wL rest x r _ _ _ HA3.out).mono ?_); rintro e w4 ⟨rfl, ha, hs⟩; have HA4 := Lib.hid ha; have HS4 := Lib.hid (S_same HS3.out hs (Nat.lt_succ_self _)); have HV4 := Lib.hid (R_same HV3.out hs hltN); have hz4 : N ≤ w4.heap.size := Nat.le_trans hz3 hs.1; obtain ⟨vl4, vw4, hr4, hl4⟩ := ha.rb; have k3 := hr4.c3; have hab := Lib.hid ha.below; clear ha hs hr4 hl4)
          | (go_at_call 36; (with_reducible refine (need_yes _).mono ?_); rintro e w9 ⟨rfl, hw9⟩; subst w9))
        go_region_law (first
          | (refine Kd.R_append_step KFn (w0 := w5) N (by rfl) (.tmp 53) (.tmp 56) 23 31 (.agg #[(.int .i64 0), (.slice none 0 0)]) 32 (by rfl) Tryd.underlying23 infoFn rfl (by decide) (by decide) (.slice Af fs0.length cf) fs0 f [.int .i64 f.f0, .slice A3 f.f1.length c3] (fun _ => True) (fun k => w4.heap.size ≤ k) (by simp [Act.eval, Act.put]) (by simp [Act.eval, Act.put]) HM.out (fun k hk => ⟨trivial, fun e => by have := Kd.R_lt HV4.out k e.symm; omega⟩) (fun _ _ => trivial) HV5.out (Below.refl _ _) hz5 (by omega) ?_; intro v9 w6 ho hb6 hg6 hat6; obtain ⟨A9, c9, rfl⟩ := Kd.R_slice ho; rw [List.length_append, List.length_singleton] at ho hat6; have HV6 := Lib.hid ho; have HS6 := Lib.hid (Kd.S_step HS5.out (fun k hk _ => hb6.block k hk)); have HA6 := Lib.hid (HA5.out.moved (hb6.mono (Nat.le_of_lt hltN)) (hb6.block _ hltN)); have hz6 : N ≤ w6.heap.size := Nat.le_trans hz5 hb6.size; clear k3 y3; obtain ⟨vl6, vw6, hr6, hl6⟩ := HA6.out.rb; have k3 := hr6.c3; have y3 := hr6.fz 3; clear ho hb6 hg6 hat6 hr6 hl6)
          | (go_simp; go_at_call 37; refine (fn_ok wL HSH.out ts HP.out rest HF1.out m0 r _ _ _ (by exact Kd.R_move (Kd.R_mono (Kd.S_R HS4.out) (fun _ _ => trivial)) (fun _ _ => rfl)) f rest2 HFK.out (HA4.out.drewN _)).mono ?_; rintro e w5 ⟨v3, rfl, h3, ha, hs⟩; obtain ⟨A3, c3, rfl⟩ := Kd.R_slice h3; have HA5 := Lib.hid ha; have HS5 := Lib.hid (S_same HS4.out hs (Nat.lt_succ_self _)); have HV5 := Lib.hid (R_same HV4.out hs hltN); have hz5 : N ≤ w5.heap.size := Nat.le_trans hz4 hs.1; have hq5 := ha.lt; obtain ⟨vl5, vw5, hr5, hl5⟩ := ha.rb; clear k3; have k3 := hr5.c3; have y3 := hr5.fz 3; have HM := Lib.hid (k31_mkM w5 N (fun k => w4.heap.size ≤ k) f (Kd.R_lower (Kd.R_mono (Kd.R_bound h3) (fun k hk => hk.2.1)) hz4)); clear ha hs hr5 hl5 h3))
        all_goals
          have ha7 := HA6.out.setF (.slice A9 (fs0.length + 1) c9)
          have hs7 := S_on HS6.out (Nat.lt_succ_self _) 3 (.slice A9 (fs0.length + 1) c9)
          have hv7 := R_on HV6.out hltN 3 (.slice A9 (fs0.length + 1) c9)
          have hz7 : N ≤ (w6.setCell ⟨wL.heap.size, 3, none⟩ (.slice A9 (fs0.length + 1) c9)).heap.size := by rw [set_size]; exact hz6
          clear k3 y3
          generalize w6.setCell ⟨wL.heap.size, 3, none⟩ (.slice A9 (fs0.length + 1) c9) = w7 at ha7 hs7 hv7 hz7 ⊢
          have HA7 := Lib.hid ha7
          have HS7 := Lib.hid hs7
          have HV7 := Lib.hid hv7
          clear ha7 hs7 hv7
          go_wp2
          go_roundg rest2.length
          case measure => simp; omega
          case rel => exact ⟨rest2, fs0 ++ [f], .slice A9 (fs0.length + 1) c9, k, rfl, HQ2.out, HF2.out, by simp; omega, HA7.out, HS7.out, HV7.out, hz7⟩
end Go.Proofs.YtlghkomipboflaaDoor.Rd
end
section
namespace Go.Proofs.YtlghkomipboflaaDoor.Rd
open Go.RowKit Go.Proofs.YtlghkomipboflaaDoor Go.Proofs.YtlghkomipboflaaDoor.X Go.Proofs.YtlghkomipboflaaDoorW.PrintWords Go.Proofs.YtlghkomipboflaaDoorW.PrintLast Go.Proofs.YtlghkomipboflaaDoorW.PrintMore
set_option linter.unusedVariables false
set_option linter.unusedSimpArgs false
set_option maxHeartbeats 3200000 in
set_option maxRecDepth 100000 in
theorem prg2_b (wL : World) (hsh : ShTab wL) (ts : List Tp) (hp : ∀ t ∈ ts, t.f3.length ≤ 1000000) (ls : List (List ByteArray)) (hfine : Fine ls) (hlen : ls.length ≤ 1000000) (v : Value) (w : World) (hk : funcsF ts (ls.length + 1) ls [] = none) (a : Act) (hfr : Fr 61 [(0, pG wL)] a) (W : World) (h : At wL ls [] v (.slice none 0 0) W) (hS : Kd.S KTp 41 W (wL.heap.size + 1) (fun _ => True) v ts) :
    Code.wp Tryd.prog (rights 1 c17) (bodyPost Tryd.prog Tryd.f17 (Gone wL w)) a W := by
  obtain ⟨us, hus, rfl⟩ := open61 a hfr.size hfr.no
  have e0 := hfr.val hus 0 _ (List.mem_cons_self)
  rw [e0]
  clear e0
  clear hfr hus
  have hz := h.lt
  obtain ⟨N, hN⟩ : ∃ N, N = W.heap.size := ⟨_, rfl⟩
  have hltN : wL.heap.size < N := by omega
  have hN1 : N ≤ W.heap.size := by omega
  have HS := Lib.hid (Kd.S_mono (ok' := fun k => k < N) (Kd.S_bound hS) (fun k hk => by rw [hN]; exact hk.2.2.1))
  have HA := Lib.hid h
  have HSH := Lib.hid hsh
  have HP := Lib.hid hp
  have HK0 := Lib.hid hk
  have HF0 := Lib.hid hfine
  clear h hsh hk hfine hS hp hN
  conv => arg 2; whnf
  go_wp2
  go_loopg [41] ls.length (fun g _ Wr => ∃ (rest : List (List ByteArray)) (fs0 : List Fn) (vf : Value) (k : Nat), rest.length = g ∧ Hid (funcsF ts k rest fs0 = none) ∧ rest.length < k ∧ Hid (Fine rest) ∧ fs0.length + rest.length ≤ 1000000 ∧ Hid (At wL rest [] v vf Wr) ∧ Hid (Kd.S KTp 41 Wr (wL.heap.size + 1) (fun k => k < N) v ts) ∧ Hid (KFn.R 31 Wr N (fun _ => True) vf fs0) ∧ N ≤ Wr.heap.size)
  case atStart => exact ⟨ls, [], _, _, rfl, HK0.out, Nat.lt_succ_self _, HF0.out, by simpa using hlen, HA.out, HS.out, Kd.R_nil _ _ _ _ _, hN1⟩
  case round =>
    obtain ⟨rest, fs0, vf, k, hg, HQ, hfu, HF, hl1, HAr, HSr, HV, hBr⟩ := hrel
    subst hg
    obtain ⟨Af, cf, rfl⟩ := Kd.R_slice HV.out
    clear hN1 hz HA HS HK0 HF0
    cases rest with
    | nil =>
      have := HQ.out
      cases k with
      | zero => simp at hfu
      | succ k => cases this
    | cons l rest =>
      obtain ⟨hll, x, r, rfl, hx⟩ := HF.out l (List.mem_cons_self)
      have hq := HQ.out
      cases k with
      | zero => simp at hfu
      | succ k =>
      have hfu : rest.length < k := by simp at hfu; exact hfu
      have e : funcsF ts (k + 1) ((x :: r) :: rest) fs0 = if isFun x then (fnF ts r rest).bind fun q => funcsF ts k q.2 (fs0 ++ [q.1]) else none := rfl
      rw [e] at hq
      have m0 : rest.length ≤ 1000000 := by simp at hl1; omega
      have HF1 : Hid (Fine rest) := Lib.hid (fun q hq => HF.out q (List.mem_cons_of_mem _ hq))
      cases hb : isFun x with
      | false =>
        have eb : (x.toList == [102, 117, 110, 99]) = false := hb
        clear hq e hb
        go_wp2_with (first
          | (go_at_call 33; (with_reducible refine (next_cons wL (x :: r) rest [] _ _ _ HAr.out).mono ?_); rintro e w3 ⟨rfl, ha, hs⟩; have HA3 := Lib.hid ha; have HS3 := Lib.hid (S_same HSr.out hs (Nat.lt_succ_self _)); have HV3 := Lib.hid (R_same HV.out hs hltN); have hz3 : N ≤ w3.heap.size := Nat.le_trans hBr hs.1; clear ha hs)
          | (go_at_call 34; (with_reducible refine (word_ok wL rest x r _ _ _ HA3.out).mono ?_); rintro e w4 ⟨rfl, ha, hs⟩; have HA4 := Lib.hid ha; have HS4 := Lib.hid (S_same HS3.out hs (Nat.lt_succ_self _)); have HV4 := Lib.hid (R_same HV3.out hs hltN); have hz4 : N ≤ w4.heap.size := Nat.le_trans hz3 hs.1; obtain ⟨vl4, vw4, hr4, hl4⟩ := ha.rb; have k3 := hr4.c3; have hab := Lib.hid ha.below; clear ha hs hr4 hl4)
          | (go_at_call 36; (with_reducible refine (need_no _).mono ?_); rintro e w9 ⟨rfl, hw9⟩; subst w9))
        exact ⟨rfl, rfl, hab.out⟩
      | true =>
        rw [hb, if_pos rfl] at hq
        cases hfk : fnF ts r rest with
        | none =>
          have HFK := Lib.hid hfk
          have eb : (x.toList == [102, 117, 110, 99]) = true := hb
          clear hfk hq e hb
          go_wp2_with (first
            | (go_at_call 33; (with_reducible refine (next_cons wL (x :: r) rest [] _ _ _ HAr.out).mono ?_); rintro e w3 ⟨rfl, ha, hs⟩; have HA3 := Lib.hid ha; have HS3 := Lib.hid (S_same HSr.out hs (Nat.lt_succ_self _)); have HV3 := Lib.hid (R_same HV.out hs hltN); have hz3 : N ≤ w3.heap.size := Nat.le_trans hBr hs.1; clear ha hs)
            | (go_at_call 34; (with_reducible refine (word_ok wL rest x r _ _ _ HA3.out).mono ?_); rintro e w4 ⟨rfl, ha, hs⟩; have HA4 := Lib.hid ha; have HS4 := Lib.hid (S_same HS3.out hs (Nat.lt_succ_self _)); have HV4 := Lib.hid (R_same HV3.out hs hltN); have hz4 : N ≤ w4.heap.size := Nat.le_trans hz3 hs.1; obtain ⟨vl4, vw4, hr4, hl4⟩ := ha.rb; have k3 := hr4.c3; have hab := Lib.hid ha.below; clear ha hs hr4 hl4)
            | (go_at_call 36; (with_reducible refine (need_yes _).mono ?_); rintro e w9 ⟨rfl, hw9⟩; subst w9))
          go_region_law (go_simp; go_at_call 37; refine (fn_bad wL HSH.out ts HP.out rest HF1.out m0 r _ _ _ (by exact Kd.R_move (Kd.R_mono (Kd.S_R HS4.out) (fun _ _ => trivial)) (fun _ _ => rfl)) HFK.out (HA4.out.drewN _)).mono ?_; rintro e w5 ⟨rfl, hb5⟩; refine gone_dummy (w := w) ⟨rfl, rfl, hb5⟩ ?_)
          all_goals trivial
        | some q =>
        obtain ⟨f, rest2⟩ := q
        rw [hfk, Option.bind_some] at hq
        obtain ⟨n1, n2⟩ := fnF_rest _ _ _ _ _ hfk
        have HQ2 := Lib.hid hq
        have HFK := Lib.hid hfk
        have HF2 : Hid (Fine rest2) := Lib.hid (fun q hq => HF1.out q (n2 q hq))
        have m1 : fs0.length + rest2.length + 1 ≤ 1000000 := by simp at hl1; omega
        have m4 : rest2.length < rest.length + 1 := by omega
        have eb : (x.toList == [102, 117, 110, 99]) = true := hb
        have m5 : rest2.length < k := by omega
        clear hfk hq e hb n2
        go_wp2_with (first
          | (go_at_call 33; (with_reducible refine (next_cons wL (x :: r) rest [] _ _ _ HAr.out).mono ?_); rintro e w3 ⟨rfl, ha, hs⟩; have HA3 := Lib.hid ha; have HS3 := Lib.hid (S_same HSr.out hs (Nat.lt_succ_self _)); have HV3 := Lib.hid (R_same HV.out hs hltN); have hz3 : N ≤ w3.heap.size := Nat.le_trans hBr hs.1; clear ha hs)
          | (go_at_call 34; (with_reducible refine (word_ok wL rest x r _ _ _ HA3.out).mono ?_); rintro e w4 ⟨rfl, ha, hs⟩; have HA4 := Lib.hid ha; have HS4 := Lib.hid (S_same HS3.out hs (Nat.lt_succ_self _)); have HV4 := Lib.hid (R_same HV3.out hs hltN); have hz4 : N ≤ w4.heap.size := Nat.le_trans hz3 hs.1; obtain ⟨vl4, vw4, hr4, hl4⟩ := ha.rb; have k3 := hr4.c3; have hab := Lib.hid ha.below; clear ha hs hr4 hl4)
          | (go_at_call 36; (with_reducible refine (need_yes _).mono ?_); rintro e w9 ⟨rfl, hw9⟩; subst w9))
        go_region_law (first
          | (refine Kd.R_append_step KFn (w0 := w5) N (by rfl) (.tmp 53) (.tmp 56) 23 31 (.agg #[(.int .i64 0), (.slice none 0 0)]) 32 (by rfl) Tryd.underlying23 infoFn rfl (by decide) (by decide) (.slice Af fs0.length cf) fs0 f [.int .i64 f.f0, .slice A3 f.f1.length c3] (fun _ => True) (fun k => w4.heap.size ≤ k) (by simp [Act.eval, Act.put]) (by simp [Act.eval, Act.put]) HM.out (fun k hk => ⟨trivial, fun e => by have := Kd.R_lt HV4.out k e.symm; omega⟩) (fun _ _ => trivial) HV5.out (Below.refl _ _) hz5 (by omega) ?_; intro v9 w6 ho hb6 hg6 hat6; obtain ⟨A9, c9, rfl⟩ := Kd.R_slice ho; rw [List.length_append, List.length_singleton] at ho hat6; have HV6 := Lib.hid ho; have HS6 := Lib.hid (Kd.S_step HS5.out (fun k hk _ => hb6.block k hk)); have HA6 := Lib.hid (HA5.out.moved (hb6.mono (Nat.le_of_lt hltN)) (hb6.block _ hltN)); have hz6 : N ≤ w6.heap.size := Nat.le_trans hz5 hb6.size; clear k3 y3; obtain ⟨vl6, vw6, hr6, hl6⟩ := HA6.out.rb; have k3 := hr6.c3; have y3 := hr6.fz 3; clear ho hb6 hg6 hat6 hr6 hl6)
          | (go_simp; go_at_call 37; refine (fn_ok wL HSH.out ts HP.out rest HF1.out m0 r _ _ _ (by exact Kd.R_move (Kd.R_mono (Kd.S_R HS4.out) (fun _ _ => trivial)) (fun _ _ => rfl)) f rest2 HFK.out (HA4.out.drewN _)).mono ?_; rintro e w5 ⟨v3, rfl, h3, ha, hs⟩; obtain ⟨A3, c3, rfl⟩ := Kd.R_slice h3; have HA5 := Lib.hid ha; have HS5 := Lib.hid (S_same HS4.out hs (Nat.lt_succ_self _)); have HV5 := Lib.hid (R_same HV4.out hs hltN); have hz5 : N ≤ w5.heap.size := Nat.le_trans hz4 hs.1; have hq5 := ha.lt; obtain ⟨vl5, vw5, hr5, hl5⟩ := ha.rb; clear k3; have k3 := hr5.c3; have y3 := hr5.fz 3; have HM := Lib.hid (k31_mkM w5 N (fun k => w4.heap.size ≤ k) f (Kd.R_lower (Kd.R_mono (Kd.R_bound h3) (fun k hk => hk.2.1)) hz4)); clear ha hs hr5 hl5 h3))
        all_goals
          have ha7 := HA6.out.setF (.slice A9 (fs0.length + 1) c9)
          have hs7 := S_on HS6.out (Nat.lt_succ_self _) 3 (.slice A9 (fs0.length + 1) c9)
          have hv7 := R_on HV6.out hltN 3 (.slice A9 (fs0.length + 1) c9)
          have hz7 : N ≤ (w6.setCell ⟨wL.heap.size, 3, none⟩ (.slice A9 (fs0.length + 1) c9)).heap.size := by rw [set_size]; exact hz6
          clear k3 y3
          generalize w6.setCell ⟨wL.heap.size, 3, none⟩ (.slice A9 (fs0.length + 1) c9) = w7 at ha7 hs7 hv7 hz7 ⊢
          have HA7 := Lib.hid ha7
          have HS7 := Lib.hid hs7
          have HV7 := Lib.hid hv7
          clear ha7 hs7 hv7
          go_wp2
          go_roundg rest2.length
          case measure => simp; omega
          case rel => exact ⟨rest2, fs0 ++ [f], .slice A9 (fs0.length + 1) c9, k, rfl, HQ2.out, m5, HF2.out, by simp; omega, HA7.out, HS7.out, HV7.out, hz7⟩
end Go.Proofs.YtlghkomipboflaaDoor.Rd
end
section
namespace Go.Proofs.YtlghkomipboflaaDoor.Rd
open Go.RowKit Go.Proofs.YtlghkomipboflaaDoor Go.Proofs.YtlghkomipboflaaDoor.X Go.Proofs.YtlghkomipboflaaDoorW.PrintWords Go.Proofs.YtlghkomipboflaaDoorW.PrintLast Go.Proofs.YtlghkomipboflaaDoorW.PrintMore
set_option linter.unusedVariables false
set_option linter.unusedSimpArgs false
theorem catch_idle (p q : Addr) (w : World) :
    CallsD Tryd.prog 16 #[.pointer (some p), .pointer (some q)] .returning w fun e u' w' => e = .returned (.tuple #[]) ∧ u' = .returning ∧ w' = w := by
  refine callsD_of_wpS Tryd.func16 rfl fun c₀ cs hu => ?_
  apply wpS_seq
  apply wpS_region
  simp [wpOpsS, go_sem, recoverD, hu, Tryd.ntmps16, Exit.thenS]
  refine wpS_of_wp ?_
  rw [show (#[Value.pointer (some p), Value.pointer (some q)] ++ (Array.replicate 10 undef).setIfInBounds 3 Value.nilIface) = #[Value.pointer (some p), Value.pointer (some q), undef, undef, undef, Value.nilIface, undef, undef, undef, undef, undef, undef] from rfl]
  go_wp2
  cases c₀
  simp_all [bodyPostS, results, Tryd.results16]
set_option maxRecDepth 100000 in
set_option maxHeartbeats 400000 in
theorem catch_gave (b1 b2 : Nat) (hne : b1 ≠ b2) (v0 v1 v2 : Value) (w : World) (h1 : w.heap[b1]? = some (.cells #[v0, v1] 25 (0, 0))) (h2 : w.heap[b2]? = some (.cells #[v2] 26 (0, 0))) :
    CallsD Tryd.prog 16 #[.pointer (some ⟨b1, 0, none⟩), .pointer (some ⟨b2, 0, none⟩)] (.panicking wrongC) w fun e u' w' => e = .returned (.tuple #[]) ∧ u' = .panicking [{ v := wrongV, recovered := true }] ∧
      w'.heap[b1]? = some (.cells #[.slice none 0 0, .slice none 0 0] 25 (0, 0)) ∧ w'.heap[b2]? = some (.cells #[.int .i64 70] 26 (0, 0)) ∧ ∀ B, B ≤ b1 → B ≤ b2 → Below B w w' := by
  have c0 : w.cell? ⟨b1, 0, none⟩ = some v0 := by simp [World.cell?, h1]
  have c1 : w.cell? ⟨b1, 1, none⟩ = some v1 := by simp [World.cell?, h1]
  have c2 : w.cell? ⟨b2, 0, none⟩ = some v2 := by simp [World.cell?, h2]
  have f0 : w.frozen? ⟨b1, 0, none⟩ = false := by simp [World.frozen?, h1]
  have f1 : w.frozen? ⟨b1, 1, none⟩ = false := by simp [World.frozen?, h1]
  have f2 : w.frozen? ⟨b2, 0, none⟩ = false := by simp [World.frozen?, h2]
  have l1 := blk_lt h1
  have l2 := blk_lt h2
  have H1 := Lib.hid h1
  have H2 := Lib.hid h2
  have hne2 := Ne.symm hne
  clear h1 h2
  refine callsD_of_wpS Tryd.func16 rfl fun c₀ cs hu => ?_
  apply wpS_seq
  apply wpS_region
  simp [wpOpsS, go_sem, recoverD, hu, Tryd.ntmps16, Exit.thenS]
  have hta : ∀ w : World, (Instr.typeAssert wrongV 20 58 true).run Tryd.prog w = .ok (.tuple #[.agg #[], .bool true]) w := fun _ => by kernel_rfl
  refine wpS_of_wp ?_
  rw [show (#[Value.pointer (some ⟨b1, 0, none⟩), Value.pointer (some ⟨b2, 0, none⟩)] ++ (Array.replicate 10 undef).setIfInBounds 3 wrongV) = #[Value.pointer (some ⟨b1, 0, none⟩), Value.pointer (some ⟨b2, 0, none⟩), undef, undef, undef, wrongV, undef, undef, undef, undef, undef, undef] from rfl]
  go_wp2
  have g1 : ((((w.setCell ⟨b1, 0, none⟩ (.slice none 0 0)).setCell ⟨b1, 1, none⟩ (.slice none 0 0)).setCell ⟨b2, 0, none⟩ (.int .i64 70)).alloc (.cells #[] 58)).heap[b1]? = some (.cells #[.slice none 0 0, .slice none 0 0] 25 (0, 0)) := by
    rw [(below_alloc (Below.refl _ _) _).block _ (by rw [set_size, set_size, set_size]; exact l1), Below.heap_setCell _ _ _ _ hne]
    rw [heap_set (heap_set H1.out _)]; rfl
  have g2 : ((((w.setCell ⟨b1, 0, none⟩ (.slice none 0 0)).setCell ⟨b1, 1, none⟩ (.slice none 0 0)).setCell ⟨b2, 0, none⟩ (.int .i64 70)).alloc (.cells #[] 58)).heap[b2]? = some (.cells #[.int .i64 70] 26 (0, 0)) := by
    rw [(below_alloc (Below.refl _ _) _).block _ (by rw [set_size, set_size, set_size]; exact l2)]
    have e : ((w.setCell ⟨b1, 0, none⟩ (.slice none 0 0)).setCell ⟨b1, 1, none⟩ (.slice none 0 0)).heap[b2]? = some (.cells #[v2] 26 (0, 0)) := by
      rw [Below.heap_setCell _ _ _ _ hne2, Below.heap_setCell _ _ _ _ hne2]; exact H2.out
    rw [heap_set e]; rfl
  have g3 : ∀ B, B ≤ b1 → B ≤ b2 → Below B w ((((w.setCell ⟨b1, 0, none⟩ (.slice none 0 0)).setCell ⟨b1, 1, none⟩ (.slice none 0 0)).setCell ⟨b2, 0, none⟩ (.int .i64 70)).alloc (.cells #[] 58)) := by
    intro B h1 h2
    exact ((((Below.refl B w).setCell h1 _).setCell h1 _).setCell h2 _).alloc (by rw [set_size, set_size, set_size]; omega) _
  generalize (((w.setCell ⟨b1, 0, none⟩ (.slice none 0 0)).setCell ⟨b1, 1, none⟩ (.slice none 0 0)).setCell ⟨b2, 0, none⟩ (.int .i64 70)).alloc (.cells #[] 58) = w' at g1 g2 g3 ⊢
  clear c0 c1 c2 f0 f1 f2 hta
  cases c₀
  simp [bodyPostS, results, Tryd.results16, g1, g2]
  exact g3
end Go.Proofs.YtlghkomipboflaaDoor.Rd
end

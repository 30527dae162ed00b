/- Texts of this claim, merged (part 8 of 13): ReadP, ShapeC, ReadR, Odd7. -/
import Derived.Deep.RegionHeld3
import Derived.Laws.EntriesVeiled
import Derived.Test.YtlghkomipboflaaDoorBR1
import Derived.Test.YtlghkomipboflaaDoorBR4
import Derived.Test.YtlghkomipboflaaDoorBR5
import Derived.Test.YtlghkomipboflaaDoorBR6
import Derived.Test.YtlghkomipboflaaDoorBR7
set_option linter.unusedVariables false
set_option linter.unusedSimpArgs false
section
namespace Go.Proofs.YtlghkomipboflaaDoor.Rd
open Go.RowKit Go.Proofs.YtlghkomipboflaaDoor Go.Proofs.YtlghkomipboflaaDoor.X Go.Proofs.YtlghkomipboflaaDoorW.PrintWords Go.Proofs.YtlghkomipboflaaDoorW.PrintLast Go.Proofs.YtlghkomipboflaaDoorW.PrintMore
set_option linter.unusedVariables false
set_option linter.unusedSimpArgs false
theorem mks_len {c : Int} : ∀ {ws : List ByteArray} {ns : List Int}, mks c ws = some ns → ns.length = ws.length
  | [], ns, h => by cases h; rfl
  | x :: r, ns, h => by
    unfold mks at h
    obtain ⟨n, _, h⟩ := Option.bind_eq_some_iff.1 h
    obtain ⟨l, hl, rfl⟩ := Option.map_eq_some_iff.1 h
    simp [mks_len hl]
theorem kindF_parts {ws r : List ByteArray} {t : Tp} (h : kindF ws = some (t, r)) : t.f3.length ≤ ws.length := by
  cases ws with
  | nil => cases h
  | cons x ws =>
    rw [kindF] at h
    split at h
    · cases h; simp
    · split at h
      · obtain ⟨p, _, e⟩ := Option.map_eq_some_iff.1 h
        cases e; simp
      · split at h
        · obtain ⟨p, hp, h⟩ := Option.bind_eq_some_iff.1 h
          obtain ⟨ps, hps, e⟩ := Option.map_eq_some_iff.1 h
          cases e
          have h1 := mks_len hps
          have h2 := mkN_len hp
          simp; omega
        · split at h
          · obtain ⟨ps, hps, e⟩ := Option.map_eq_some_iff.1 h
            cases e
            have h1 := mks_len hps
            simp; omega
          · split at h
            · obtain ⟨p, _, h⟩ := Option.bind_eq_some_iff.1 h
              obtain ⟨q, _, e⟩ := Option.map_eq_some_iff.1 h
              cases e; simp
            · cases h
theorem typesF_parts : ∀ (ls : List (List ByteArray)) (ts ts1 : List Tp) (r : List (List ByteArray)), Fine ls → (∀ t ∈ ts, t.f3.length ≤ 1000000) → typesF ls ts = some (ts1, r) → ∀ t ∈ ts1, t.f3.length ≤ 1000000
  | [], ts, ts1, r, _, ht, h => by cases h; exact ht
  | l :: ls, ts, ts1, r, hf, ht, h => by
    have e : typesF (l :: ls) ts = if isTyp (l.headD ⟨#[]⟩) then (kindF l.tail).bind fun p => if p.2 = [] then typesF ls (ts ++ [p.1]) else none else some (ts, l :: ls) := rfl
    rw [e] at h
    split at h
    · obtain ⟨⟨t, r0⟩, hk, h⟩ := Option.bind_eq_some_iff.1 h
      split at h
      · refine typesF_parts ls _ _ _ (fun q hq => hf q (List.mem_cons_of_mem _ hq)) ?_ h
        intro q hq
        rcases List.mem_append.1 hq with hq | hq
        · exact ht q hq
        · rw [List.mem_singleton.1 hq]
          have h1 := kindF_parts hk
          have h2 := (hf l (List.mem_cons_self)).1
          simp at h1
          exact Nat.le_trans h1 (by omega)
      · cases h
    · cases h; exact ht
def Goes (wL : World) (ls : List (List ByteArray)) (w : World) : Ending → World → Prop := match progF ls with
  | some (ts, fs) => ProgPost wL ts fs
  | none => Gone wL w
theorem prog_call (wL : World) (hsh : ShTab wL) (ls : List (List ByteArray)) (hfine : Fine ls) (hlen : ls.length ≤ 1000000) (w : World) (h : At wL ls [] (.slice none 0 0) (.slice none 0 0) w) :
    Calls Tryd.prog 17 #[pG wL] w (Goes wL ls w) := by
  unfold Goes progF
  refine enter17 wL w _ ?_
  rw [c17_cut]
  cases ht : typesF ls [] with
  | none => exact prg1_b wL ls hfine hlen _ w ht h _
  | some p =>
    obtain ⟨ts1, ls1⟩ := p
    refine prg1 wL ls hfine hlen _ w ts1 ls1 ht h _ _ (fun v a W hfr hA hS hf1 hl1 => ?_)
    have hp := typesF_parts ls [] ts1 ls1 hfine (fun _ h => by cases h) ht
    simp only [Option.bind_some]
    cases hfs : funcsF ts1 (ls1.length + 1) ls1 [] with
    | none => exact prg2_b wL hsh ts1 hp ls1 hf1 hl1 v w hfs a hfr W hA hS
    | some fs => exact prg2 wL hsh ts1 hp ls1 hf1 hl1 v w fs hfs a hfr W hA hS
def GoodL (l : List ByteArray) : Prop := l.length ≤ 64 ∧ l ≠ [] ∧ ∀ x ∈ l, 0 < x.size
theorem endL_good {ls : List (List ByteArray)} {ws : List ByteArray} (h1 : ∀ l ∈ ls, GoodL l) (h2 : ∀ x ∈ ws, 0 < x.size) (h3 : ws.length ≤ 64) : ∀ l ∈ endL ls ws, GoodL l := by
  intro l hl
  unfold endL at hl
  split at hl
  · exact h1 l hl
  · rename_i hne
    rcases List.mem_append.1 hl with hl | hl
    · exact h1 l hl
    · rw [List.mem_singleton.1 hl]; exact ⟨h3, hne, h2⟩
theorem endL_len (ls : List (List ByteArray)) (ws : List ByteArray) : (endL ls ws).length ≤ ls.length + 1 := by
  unfold endL
  split <;> simp
theorem lexF_good : ∀ (n : Nat) (l : List UInt8) (ws : List ByteArray) (ls r : List (List ByteArray)), l.length = n → (∀ q ∈ ls, GoodL q) → (∀ x ∈ ws, 0 < x.size) → lexF l ws ls = some r → (∀ q ∈ r, GoodL q) ∧ r.length ≤ ls.length + l.length + 1 := by
  intro n
  induction n using Nat.strongRecOn with
  | _ n ih =>
    intro l ws ls r hn h1 h2 h
    cases l with
    | nil =>
      rw [lexF_nil] at h
      split at h
      · cases h
        exact ⟨endL_good h1 h2 (by assumption), by have := endL_len ls ws; simp; omega⟩
      · cases h
    | cons c t =>
      rw [lexF] at h
      subst hn
      split at h
      · obtain ⟨a, b⟩ := ih t.length (by simp) t ws ls r rfl h1 h2 h
        exact ⟨a, by simp; omega⟩
      · split at h
        · split at h
          · obtain ⟨a, b⟩ := ih t.length (by simp) t [] (endL ls ws) r rfl (endL_good h1 h2 (by assumption)) (fun _ h => by cases h) h
            exact ⟨a, by have := endL_len ls ws; simp; omega⟩
          · cases h
        · split at h
          · have hd := dropWhile_le noFeed t
            obtain ⟨a, b⟩ := ih (t.dropWhile noFeed).length (by simp; omega) _ ws ls r rfl h1 h2 h
            exact ⟨a, by simp; omega⟩
          · have hd := dropWhile_le isPlain t
            obtain ⟨a, b⟩ := ih (t.dropWhile isPlain).length (by simp; omega) _ _ ls r rfl h1 (by
              intro x hx
              rcases List.mem_append.1 hx with hx | hx
              · exact h2 x hx
              · rw [List.mem_singleton.1 hx]; show 0 < (c :: t.takeWhile isPlain).toArray.size; simp) h
            exact ⟨a, by simp; omega⟩
theorem linesP_good (s : ByteArray) : (∀ q ∈ (linesP s).1, GoodL q) ∧ (linesP s).1.length ≤ 16385 := by
  unfold linesP
  split
  · exact ⟨fun q hq => (by cases hq), by simp⟩
  · rename_i hs
    cases h : lexF s.data.toList [] [] with
    | none => exact ⟨fun q hq => (by cases hq), by simp⟩
    | some r =>
      obtain ⟨a, b⟩ := lexF_good _ s.data.toList [] [] r rfl (fun _ h => by cases h) (fun _ h => by cases h) h
      have hsz : s.data.toList.length = s.size := by simp
      exact ⟨a, by simp at b ⊢; omega⟩
theorem linesP_fine (s : ByteArray) : Fine (linesP s).1 := by
  intro l hl
  obtain ⟨h1, h2, h3⟩ := (linesP_good s).1 l hl
  cases l with
  | nil => exact absurd rfl h2
  | cons x r => exact ⟨by omega, x, r, rfl, h3 x (List.mem_cons_self)⟩
end Go.Proofs.YtlghkomipboflaaDoor.Rd
end
section
namespace Go.Proofs.YtlghkomipboflaaDoor.Sh
open Go.RowKit Go.Proofs.YtlghkomipboflaaDoor Go.Proofs.YtlghkomipboflaaDoor.X Go.Proofs.YtlghkomipboflaaDoor.Rd Go.Proofs.YtlghkomipboflaaDoorW.PrintWords Go.Proofs.YtlghkomipboflaaDoorW.PrintLast Go.Proofs.YtlghkomipboflaaDoorW.PrintMore
set_option linter.unusedVariables false
set_option linter.unusedSimpArgs false
abbrev TIn : Type := S39
abbrev TBk : Type := S36
abbrev TFn : Type := S31
abbrev TTp : Type := S41
abbrev TEn : Type := S34
def opOk (x : TIn) : Prop := 0 ≤ x.f0 ∧ x.f0 ≤ 255
theorem odd1 (x : TIn) (A5 : Option Addr) (c5 : Nat) (A6 : Option Addr) (c6 : Nat) (s0 s1 s2 s3 : Int) (B : Nat) (w : World) (hC5 : (Kd.int .i64).C w A5 x.f5.length x.f5) (hl5 : x.f5.length ≤ c5) (hC6 : (Kd.int .i64).C w A6 x.f6.length x.f6) (hl6 : x.f6.length ≤ c6) (hop : opOk x) (hsh : ShTab w)
    (hs : w.heap[B]? = some (.cells #[.int .i64 s0, .int .i64 s1, .int .i64 s2, .int .i64 s3] 93 (0, 0))) :
    Calls Tryd.prog 43 #[.agg #[.int .u8 x.f0, .int .i64 x.f1, .int .i64 x.f2, .int .i64 x.f3, .int .i64 x.f4, .slice A5 x.f5.length c5, .slice A6 x.f6.length c6], .pointer (some ⟨B, 0, none⟩)] w fun e w' => e = .returned (.bool (!insB x s0 s1 s2 s3)) ∧ Below w.heap.size w w' := by
  have HI : Hid (∀ W, Below w.heap.size w W → Calls Tryd.prog 44 #[.agg #[.int .u8 x.f0, .int .i64 x.f1, .int .i64 x.f2, .int .i64 x.f3, .int .i64 x.f4, .slice A5 x.f5.length c5, .slice A6 x.f6.length c6], .agg #[.int .i64 s0, .int .i64 s1, .int .i64 s2, .int .i64 s3]] W (InsEnd W (insB x s0 s1 s2 s3))) := Lib.hid (fun W hb => ins_call x A5 c5 A6 c6 s0 s1 s2 s3 W (Kd.C_below hC5 hb) hl5 (Kd.C_below hC6 hb) hl6 hop (hsh.below hb))
  have c0 : w.cell? ⟨B, 0, none⟩ = some (.int .i64 s0) := by simp [World.cell?, hs]
  have c1 : w.cell? ⟨B, 1, none⟩ = some (.int .i64 s1) := by simp [World.cell?, hs]
  have c2 : w.cell? ⟨B, 2, none⟩ = some (.int .i64 s2) := by simp [World.cell?, hs]
  have c3 : w.cell? ⟨B, 3, none⟩ = some (.int .i64 s3) := by simp [World.cell?, hs]
  have hlt := blk_lt hs
  generalize insB x s0 s1 s2 s3 = r at HI ⊢
  clear hC5 hC6 hl5 hl6 hop hsh hs
  go_enter Tryd.func43, Tryd.ntmps43
  go_wp2_with (go_at_call 44; refine (HI.out _ (below_alloc (Below.refl _ _) _)).mono ?_; rintro e w' ⟨rfl, hb⟩)
  go_ret
  exact ⟨rfl, (below_alloc (Below.refl _ w) _).trans (hb.mono (by simp))⟩
def endB (x : TEn) (s2 s3 : Int) : Bool :=
  if x.f0 = 1 then (x.f1 == 0 && x.f3 == 0) && belowB x.f2 s3
  else if x.f0 = 2 then belowB x.f1 s2 && belowB x.f2 s3 && belowB x.f3 s3
  else if x.f0 = 3 then (x.f2 == 0 && x.f3 == 0) && belowB x.f1 s2
  else false
theorem end_f (x : TEn) (s0 s1 s2 s3 : Int) : shape_end.f x.f0 x.f1 x.f2 x.f3 s0 s1 s2 s3 = some (endB x s2 s3) := by
  unfold shape_end.f endB
  simp only [below_f, Option.bind_some]
  by_cases h1 : x.f0 = 1
  · rw [if_pos h1, if_pos h1]
    cases (x.f1 == 0 && x.f3 == 0) <;> simp
  · rw [if_neg h1, if_neg h1]
    by_cases h2 : x.f0 = 2
    · rw [if_pos h2, if_pos h2]
      cases belowB x.f1 s2 <;> cases belowB x.f2 s3 <;> simp
    · rw [if_neg h2, if_neg h2]
      by_cases h3 : x.f0 = 3
      · rw [if_pos h3, if_pos h3]
        cases (x.f2 == 0 && x.f3 == 0) <;> simp
      · rw [if_neg h3, if_neg h3]
def blkBad (s0 s1 s2 s3 : Int) (b : TBk) : Bool := b.f0.any (fun x => !insB x s0 s1 s2 s3) || !endB b.f1 s2 s3
set_option maxHeartbeats 800000 in
theorem odd2 (b : TBk) (A0 : Option Addr) (c0 : Nat) (s0 s1 s2 s3 : Int) (B1 B2 : Nat) (w : World) (hC : k39.C w A0 b.f0.length b.f0) (hl : b.f0.length ≤ c0) (hop : ∀ x ∈ b.f0, opOk x) (hsh : ShTab w)
    (hs : w.heap[B2]? = some (.cells #[.int .i64 s0, .int .i64 s1, .int .i64 s2, .int .i64 s3] 93 (0, 0))) (ho : w.cell? ⟨B1, 0, none⟩ = some (.func (.func 43) #[] #[.pointer (some ⟨B2, 0, none⟩)])) :
    Calls Tryd.prog 46 #[.agg #[.slice A0 b.f0.length c0, .int .u8 b.f1.f0, .int .i64 b.f1.f1, .int .i64 b.f1.f2, .int .i64 b.f1.f3], .pointer (some ⟨B1, 0, none⟩), .pointer (some ⟨B2, 0, none⟩)] w fun e w' => e = .returned (.bool (blkBad s0 s1 s2 s3 b)) ∧ Below w.heap.size w w' := by
  have eg : ∀ args w, (callFunc 43 args).run Tryd.prog w = .ok (.enter 43 args) w := enters_of Tryd.func43 (by kernel_rfl) rfl
  have hlt := blk_lt hs
  have hlt1 := World.block_lt_of_cell? _ _ ho
  have HI : Hid (∀ W, Below w.heap.size w W → Calls Tryd.prog 47 #[.slice A0 b.f0.length c0, .func (.func 43) #[] #[.pointer (some ⟨B2, 0, none⟩)]] W fun e w' => e = .returned (.bool (b.f0.any (fun x => !insB x s0 s1 s2 s3))) ∧ Below W.heap.size W w') := Lib.hid (fun W hbw =>
    has_Ins 43 #[.pointer (some ⟨B2, 0, none⟩)] eg A0 c0 b.f0 (fun x => !insB x s0 s1 s2 s3) W (Kd.C_below hC hbw) hl (fun W' x A5 c5 A6 c6 hx hb h1 h2 h3 h4 => (odd1 x A5 c5 A6 c6 s0 s1 s2 s3 B2 W' h2 h1 h4 h3 (hop x hx) (hsh.below (hbw.trans (hb.mono hbw.size))) (by rw [(hbw.trans (hb.mono hbw.size)).block _ hlt, hs])).mono fun e w' ⟨he, h5⟩ => ⟨he, hb.trans (h5.mono hb.size)⟩))
  have HE : Hid (∀ W, Calls Tryd.prog 48 #[.agg #[.int .u8 b.f1.f0, .int .i64 b.f1.f1, .int .i64 b.f1.f2, .int .i64 b.f1.f3], .agg #[.int .i64 s0, .int .i64 s1, .int .i64 s2, .int .i64 s3]] W fun e w' => e = .returned (.bool (endB b.f1 s2 s3)) ∧ Below W.heap.size W w') := Lib.hid (fun W => shape_end.calls _ _ _ _ s0 s1 s2 s3 _ W (end_f b.f1 s0 s1 s2 s3))
  unfold blkBad
  have d0 : w.cell? ⟨B2, 0, none⟩ = some (.int .i64 s0) := by simp [World.cell?, hs]
  have d1 : w.cell? ⟨B2, 1, none⟩ = some (.int .i64 s1) := by simp [World.cell?, hs]
  have d2 : w.cell? ⟨B2, 2, none⟩ = some (.int .i64 s2) := by simp [World.cell?, hs]
  have d3 : w.cell? ⟨B2, 3, none⟩ = some (.int .i64 s3) := by simp [World.cell?, hs]
  generalize b.f0.any (fun x => !insB x s0 s1 s2 s3) = r1 at HI ⊢
  generalize endB b.f1 s2 s3 = r2 at HE ⊢
  clear hC hl hop hsh hs eg
  cases r1
  · go_enter Tryd.func46, Tryd.ntmps46
    go_wp2_with (first | (go_at_call 47; refine (HI.out _ (below_alloc (Below.refl _ _) _)).mono ?_; rintro e W1 ⟨rfl, hb⟩; have g1 : W1.cell? ⟨w.heap.size, 1, none⟩ = some (.int .u8 b.f1.f0) := (hb.cell (p := ⟨w.heap.size, 1, none⟩) (by simp)).trans (by simp); have g2 : W1.cell? ⟨w.heap.size, 2, none⟩ = some (.int .i64 b.f1.f1) := (hb.cell (p := ⟨w.heap.size, 2, none⟩) (by simp)).trans (by simp); have g3 : W1.cell? ⟨w.heap.size, 3, none⟩ = some (.int .i64 b.f1.f2) := (hb.cell (p := ⟨w.heap.size, 3, none⟩) (by simp)).trans (by simp); have g4 : W1.cell? ⟨w.heap.size, 4, none⟩ = some (.int .i64 b.f1.f3) := (hb.cell (p := ⟨w.heap.size, 4, none⟩) (by simp)).trans (by simp); have hB1 : Below w.heap.size w W1 := (below_alloc (Below.refl _ w) _).trans (hb.mono (by simp)); have q0 := (hB1.cell (p := ⟨B2, 0, none⟩) hlt).trans d0; have q1 := (hB1.cell (p := ⟨B2, 1, none⟩) hlt).trans d1; have q2 := (hB1.cell (p := ⟨B2, 2, none⟩) hlt).trans d2; have q3 := (hB1.cell (p := ⟨B2, 3, none⟩) hlt).trans d3; have HB1 := Lib.hid hB1; clear hb hB1) | (go_at_call 48; refine (HE.out _).mono ?_; rintro e W2 ⟨rfl, hb⟩; have HB2 := Lib.hid (HB1.out.trans (hb.mono HB1.out.size)); clear hb))
    go_ret
    exact ⟨rfl, HB2.out⟩
  · go_enter Tryd.func46, Tryd.ntmps46
    go_wp2_with (first | (go_at_call 47; refine (HI.out _ (below_alloc (Below.refl _ _) _)).mono ?_; rintro e W1 ⟨rfl, hb⟩; have g1 : W1.cell? ⟨w.heap.size, 1, none⟩ = some (.int .u8 b.f1.f0) := (hb.cell (p := ⟨w.heap.size, 1, none⟩) (by simp)).trans (by simp); have g2 : W1.cell? ⟨w.heap.size, 2, none⟩ = some (.int .i64 b.f1.f1) := (hb.cell (p := ⟨w.heap.size, 2, none⟩) (by simp)).trans (by simp); have g3 : W1.cell? ⟨w.heap.size, 3, none⟩ = some (.int .i64 b.f1.f2) := (hb.cell (p := ⟨w.heap.size, 3, none⟩) (by simp)).trans (by simp); have g4 : W1.cell? ⟨w.heap.size, 4, none⟩ = some (.int .i64 b.f1.f3) := (hb.cell (p := ⟨w.heap.size, 4, none⟩) (by simp)).trans (by simp); have hB1 : Below w.heap.size w W1 := (below_alloc (Below.refl _ w) _).trans (hb.mono (by simp)); have q0 := (hB1.cell (p := ⟨B2, 0, none⟩) hlt).trans d0; have q1 := (hB1.cell (p := ⟨B2, 1, none⟩) hlt).trans d1; have q2 := (hB1.cell (p := ⟨B2, 2, none⟩) hlt).trans d2; have q3 := (hB1.cell (p := ⟨B2, 3, none⟩) hlt).trans d3; have HB1 := Lib.hid hB1; clear hb hB1))
    go_ret
    exact ⟨rfl, HB1.out⟩
def manyF (bs : List TBk) : Int := bs.foldl (fun a b => wrap64 (a + (b.f0.length : Int))) 0
theorem many_l0 (l : List TBk) (hl : l.length ≤ 9223372036854775807) : ∀ (d k : Nat) (acc i : Int), 0 ≤ i → (l.length : Int) - i = d → d < k → shape_many.l0 k acc l (l.length : Int) i = some ((l.drop i.toNat).foldl (fun a b => wrap64 (a + (b.f0.length : Int))) acc) := by
  intro d
  induction d with
  | zero =>
    intro k acc i h0 hd hk
    obtain ⟨k, rfl⟩ : ∃ m, k = m + 1 := ⟨k - 1, by omega⟩
    simp only [shape_many.l0]
    rw [if_neg (by omega), List.drop_eq_nil_of_le (by omega)]
    rfl
  | succ d ih =>
    intro k acc i h0 hd hk
    obtain ⟨k, rfl⟩ : ∃ m, k = m + 1 := ⟨k - 1, by omega⟩
    simp only [shape_many.l0]
    rw [if_pos (by omega), if_pos h0, if_pos (by omega), show wrap64 (i + 1) = i + 1 by unfold wrap64; omega, ih k _ (i + 1) (by omega) (by omega) (by omega)]
    have hlt : i.toNat < l.length := by omega
    rw [List.drop_eq_getElem_cons hlt, List.foldl_cons, show (i + 1).toNat = i.toNat + 1 by omega]
    congr 2
    unfold rd_T36
    rw [List.getD_eq_getElem?_getD, List.getElem?_eq_getElem hlt]
    rfl
theorem many_f (sig : Int) (l : List TBk) (hl : l.length ≤ 9223372036854775807) : shape_many.f (l.length + 1) sig l = some (manyF l) := by
  have := many_l0 l hl l.length (l.length + 1) 0 0 (by omega) (by omega) (by omega)
  unfold shape_many.f
  rw [this]; rfl
theorem many_call (sig : Int) (A : Option Addr) (c : Nat) (l : List TBk) (w : World) (hC : k36.C w A l.length l) (hc : l.length ≤ c) :
    Calls Tryd.prog 42 #[.agg #[.int .i64 sig, .slice A l.length c]] w fun e w' => e = .returned (.int .i64 (manyF l)) ∧ Below w.heap.size w w' :=
  shape_many.calls _ sig A c l _ w hC hc (many_f sig l (Kd.C_max hC))
structure FBx (ts : List TTp) (A0 : Option Addr) (c0 : Nat) (fs : List TFn) (A1 : Option Addr) (c1 : Nat) (f : TFn) (A2 : Option Addr) (c2 : Nat) (w : World) (W : World) : Prop where
  below : Below w.heap.size w W
  b0 : W.heap[w.heap.size]? = some (.cells #[.slice A0 ts.length c0, .slice A1 fs.length c1] 25 (0, 0))
  b1 : W.heap[w.heap.size + 1]? = some (.cells #[.int .i64 f.f0, .slice A2 f.f1.length c2] 31 (0, 0))
theorem FBx.start (ts : List TTp) (A0 : Option Addr) (c0 : Nat) (fs : List TFn) (A1 : Option Addr) (c1 : Nat) (f : TFn) (A2 : Option Addr) (c2 : Nat) (w : World) : FBx ts A0 c0 fs A1 c1 f A2 c2 w ((w.alloc (.cells #[.slice A0 ts.length c0, .slice A1 fs.length c1] 25)).alloc (.cells #[.int .i64 f.f0, .slice A2 f.f1.length c2] 31)) :=
  ⟨below_alloc (below_alloc (Below.refl _ _) _) _, by
    rw [(below_alloc (Below.refl _ (w.alloc (.cells #[.slice A0 ts.length c0, .slice A1 fs.length c1] 25))) _).block _ (by simp)]; exact heap_alloc_new w _, by
    have := heap_alloc_new (w.alloc (.cells #[.slice A0 ts.length c0, .slice A1 fs.length c1] 25)) (.cells #[.int .i64 f.f0, .slice A2 f.f1.length c2] 31)
    simpa using this⟩
theorem FBx.later {ts : List TTp} {A0 : Option Addr} {c0 : Nat} {fs : List TFn} {A1 : Option Addr} {c1 : Nat} {f : TFn} {A2 : Option Addr} {c2 : Nat} {w W W1 : World} (h : FBx ts A0 c0 fs A1 c1 f A2 c2 w W) (hb : Below W.heap.size W W1) : FBx ts A0 c0 fs A1 c1 f A2 c2 w W1 :=
  ⟨h.below.trans (hb.mono h.below.size), by rw [hb.block _ (blk_lt h.b0)]; exact h.b0, by rw [hb.block _ (blk_lt h.b1)]; exact h.b1⟩
theorem FBx.cells {ts : List TTp} {A0 : Option Addr} {c0 : Nat} {fs : List TFn} {A1 : Option Addr} {c1 : Nat} {f : TFn} {A2 : Option Addr} {c2 : Nat} {w W : World} (h : FBx ts A0 c0 fs A1 c1 f A2 c2 w W) : W.cell? ⟨w.heap.size, 0, none⟩ = some (.slice A0 ts.length c0) ∧ W.cell? ⟨w.heap.size, 1, none⟩ = some (.slice A1 fs.length c1) ∧ W.cell? ⟨w.heap.size + 1, 0, none⟩ = some (.int .i64 f.f0) ∧ W.cell? ⟨w.heap.size + 1, 1, none⟩ = some (.slice A2 f.f1.length c2) := by
  refine ⟨?_, ?_, ?_, ?_⟩
  · simp [World.cell?, h.b0]
  · simp [World.cell?, h.b0]
  · simp [World.cell?, h.b1]
  · simp [World.cell?, h.b1]
theorem FBx.set {ts : List TTp} {A0 : Option Addr} {c0 : Nat} {fs : List TFn} {A1 : Option Addr} {c1 : Nat} {f : TFn} {A2 : Option Addr} {c2 : Nat} {w W : World} (h : FBx ts A0 c0 fs A1 c1 f A2 c2 w W) {b : Nat} (hlt : w.heap.size + 1 < b) (j : Nat) (v : Value) : FBx ts A0 c0 fs A1 c1 f A2 c2 w (W.setCell ⟨b, j, none⟩ v) :=
  ⟨h.below.setCell (by show w.heap.size ≤ b; omega) _, by rw [Below.heap_setCell _ _ _ _ (by show w.heap.size ≠ b; omega)]; exact h.b0, by rw [Below.heap_setCell _ _ _ _ (by show w.heap.size + 1 ≠ b; omega)]; exact h.b1⟩
def fnBad (ts : List TTp) (f : TFn) : Bool := !belowB f.f0 ts.length || (rd_T41 ts f.f0).f0 != 3 || !belowB ((f.f1.length : Int) - 1) 16 || decide (128 < manyF f.f1)
def fnB (ts : List TTp) (nf : Nat) (f : TFn) : Bool :=
  if fnBad ts f then false else !f.f1.any (blkBad ts.length nf (wrap64 (((rd_T41 ts f.f0).f3.length : Int) + manyF f.f1)) f.f1.length)
theorem box_then {Wc W2 : World} {n : Nat} {G : Prop} (hb : Below Wc.heap.size Wc W2) (hx : Wc.heap[n]? = some (.cells #[.int .i64 0, .int .i64 0, .int .i64 0, .int .i64 0] 93 (0, 0))) (h : W2.heap[n]? = some (.cells #[.int .i64 0, .int .i64 0, .int .i64 0, .int .i64 0] 93 (0, 0)) → W2.cell? ⟨n, 0, none⟩ = some (.int .i64 0) → W2.cell? ⟨n, 1, none⟩ = some (.int .i64 0) → W2.cell? ⟨n, 2, none⟩ = some (.int .i64 0) → W2.cell? ⟨n, 3, none⟩ = some (.int .i64 0) → W2.frozen? ⟨n, 0, none⟩ = false → W2.frozen? ⟨n, 1, none⟩ = false → W2.frozen? ⟨n, 2, none⟩ = false → W2.frozen? ⟨n, 3, none⟩ = false → G) : G := by
  have e : W2.heap[n]? = some (.cells #[.int .i64 0, .int .i64 0, .int .i64 0, .int .i64 0] 93 (0, 0)) := by rw [hb.block _ (blk_lt hx)]; exact hx
  exact h e (by simp [World.cell?, e]) (by simp [World.cell?, e]) (by simp [World.cell?, e]) (by simp [World.cell?, e]) (by simp [World.frozen?, e]) (by simp [World.frozen?, e]) (by simp [World.frozen?, e]) (by simp [World.frozen?, e])
def FnEnd (w : World) (r : Bool) (e : Ending) (w' : World) : Prop := e = .returned (.bool r) ∧ Below w.heap.size w w'
set_option maxHeartbeats 800000 in
set_option maxRecDepth 100000 in
theorem fn_sig (ts : List TTp) (A0 : Option Addr) (c0 : Nat) (fs : List TFn) (A1 : Option Addr) (c1 : Nat) (f : TFn) (A2 : Option Addr) (c2 : Nat) (w : World) (hCt : k41.C w A0 ts.length ts) (hCb : k36.C w A2 f.f1.length f.f1) (hlb : f.f1.length ≤ c2) (hop : ∀ b ∈ f.f1, ∀ x ∈ b.f0, opOk x) (hsh : ShTab w) (hs : belowB f.f0 ts.length = false) : Calls Tryd.prog 25 #[.agg #[.slice A0 ts.length c0, .slice A1 fs.length c1], .agg #[.int .i64 f.f0, .slice A2 f.f1.length c2]] w (FnEnd w false) := by
  have HPA := Lib.hid (fun W => below_any f.f0 ts.length W)
  rw [hs] at HPA
  have hw1 : IntKind.i64.wrap ((f.f1.length : Int) - 1) = (f.f1.length : Int) - 1 := by have := Kd.C_max hCb; rw [IntKind.wrap_i64]; omega
  clear hs hCt hCb hlb hop hsh
  go_enter Tryd.func25, Tryd.ntmps25
  go_wp2_with (go_at_call 22; refine (HPA.out _).mono ?_; rintro e W1 ⟨rfl, hb⟩; have HM := Lib.hid ((FBx.start ts A0 c0 fs A1 c1 f A2 c2 w).later hb); clear hb)
  go_ret
  exact ⟨rfl, HM.out.below⟩
noncomputable def c25 : Code := Tryd.f25.body.getD .skip
set_option maxRecDepth 100000 in
theorem c25_cut : c25 = cutAt 2 c25 (rights 2 c25) := by kernel_rfl
set_option maxRecDepth 100000 in
theorem enter25 (ts : List TTp) (A0 : Option Addr) (c0 : Nat) (fs : List TFn) (A1 : Option Addr) (c1 : Nat) (f : TFn) (A2 : Option Addr) (c2 : Nat) (w : World) (R : Ending → World → Prop) (h : Code.wp Tryd.prog c25 (bodyPost Tryd.prog Tryd.f25 R) { tmps := #[.agg #[.slice A0 ts.length c0, .slice A1 fs.length c1], .agg #[.int .i64 f.f0, .slice A2 f.f1.length c2], undef, undef, undef, undef, undef, undef, undef, undef, undef, undef, undef, undef, undef, undef, undef, undef, undef, undef, undef, undef, undef, undef, undef, undef, undef, undef, undef, undef, undef, undef, undef, undef, undef, undef, undef, undef, undef, undef, undef, undef, undef, undef, undef, undef, undef, undef, undef, undef, undef, undef, undef, undef, undef, undef, undef, undef, undef, undef, undef, undef, undef, undef], defers := [] } w) : Calls Tryd.prog 25 #[.agg #[.slice A0 ts.length c0, .slice A1 fs.length c1], .agg #[.int .i64 f.f0, .slice A2 f.f1.length c2]] w R := by
  go_enter Tryd.func25, Tryd.ntmps25
  exact h
set_option maxRecDepth 100000 in
theorem open64 (a : Act) (hs : a.tmps.size = 64) (hd : a.defers = []) : ∃ us : Nat → Value, (∀ i, us i = a.tmps.toList.getD i undef) ∧ a = { tmps := #[us 0, us 1, us 2, us 3, us 4, us 5, us 6, us 7, us 8, us 9, us 10, us 11, us 12, us 13, us 14, us 15, us 16, us 17, us 18, us 19, us 20, us 21, us 22, us 23, us 24, us 25, us 26, us 27, us 28, us 29, us 30, us 31, us 32, us 33, us 34, us 35, us 36, us 37, us 38, us 39, us 40, us 41, us 42, us 43, us 44, us 45, us 46, us 47, us 48, us 49, us 50, us 51, us 52, us 53, us 54, us 55, us 56, us 57, us 58, us 59, us 60, us 61, us 62, us 63], defers := [] } := by
  refine ⟨fun i => a.tmps.toList.getD i undef, fun _ => rfl, ?_⟩
  cases a with
  | mk tmps defers =>
    simp only at hs hd
    subst hd
    have hl : tmps.toList.length = 64 := by simpa using hs
    have e := list_all' tmps.toList
    rw [hl] at e
    generalize hll : tmps.toList = l at e
    have e2 : (List.range 64).map (fun i => l.getD i undef) = [l.getD 0 undef, l.getD 1 undef, l.getD 2 undef, l.getD 3 undef, l.getD 4 undef, l.getD 5 undef, l.getD 6 undef, l.getD 7 undef, l.getD 8 undef, l.getD 9 undef, l.getD 10 undef, l.getD 11 undef, l.getD 12 undef, l.getD 13 undef, l.getD 14 undef, l.getD 15 undef, l.getD 16 undef, l.getD 17 undef, l.getD 18 undef, l.getD 19 undef, l.getD 20 undef, l.getD 21 undef, l.getD 22 undef, l.getD 23 undef, l.getD 24 undef, l.getD 25 undef, l.getD 26 undef, l.getD 27 undef, l.getD 28 undef, l.getD 29 undef, l.getD 30 undef, l.getD 31 undef, l.getD 32 undef, l.getD 33 undef, l.getD 34 undef, l.getD 35 undef, l.getD 36 undef, l.getD 37 undef, l.getD 38 undef, l.getD 39 undef, l.getD 40 undef, l.getD 41 undef, l.getD 42 undef, l.getD 43 undef, l.getD 44 undef, l.getD 45 undef, l.getD 46 undef, l.getD 47 undef, l.getD 48 undef, l.getD 49 undef, l.getD 50 undef, l.getD 51 undef, l.getD 52 undef, l.getD 53 undef, l.getD 54 undef, l.getD 55 undef, l.getD 56 undef, l.getD 57 undef, l.getD 58 undef, l.getD 59 undef, l.getD 60 undef, l.getD 61 undef, l.getD 62 undef, l.getD 63 undef] := rfl
    rw [e2] at e
    congr 1
    have e3 : tmps = tmps.toList.toArray := by simp
    rw [e3, hll]
    conv => lhs; rw [e]
def bad4 (z1 pb z2 : Bool) : Bool := z1 || !pb || z2
set_option maxHeartbeats 3200000 in
set_option maxRecDepth 100000 in
theorem fn_head (ts : List TTp) (ad : Addr) (c0 : Nat) (t : TTp) (A3 : Option Addr) (c3 : Nat) (fs : List TFn) (A1 : Option Addr) (c1 : Nat) (f : TFn) (A2 : Option Addr) (c2 : Nat) (w : World) (hCb : k36.C w A2 f.f1.length f.f1) (hlb : f.f1.length ≤ c2) (hs : belowB f.f0 ts.length = true)
    (x0 : w.cell? (ad.add (f.f0.toNat * 4)) = some (.int .u8 t.f0)) (x1 : w.cell? ⟨(ad.add (f.f0.toNat * 4)).block, (ad.add (f.f0.toNat * 4)).off + 1, none⟩ = some (.int .i64 t.f1)) (x2 : w.cell? ⟨(ad.add (f.f0.toNat * 4)).block, (ad.add (f.f0.toNat * 4)).off + 2, none⟩ = some (.int .i64 t.f2)) (x3 : w.cell? ⟨(ad.add (f.f0.toNat * 4)).block, (ad.add (f.f0.toNat * 4)).off + 3, none⟩ = some (.slice A3 t.f3.length c3)) (r : Bool) (T : Code)
    (hr : bad4 (t.f0 != 3) (belowB ((f.f1.length : Int) - 1) 16) (decide (128 < manyF f.f1)) = true → r = false)
    (hT : bad4 (t.f0 != 3) (belowB ((f.f1.length : Int) - 1) 16) (decide (128 < manyF f.f1)) = false → ∀ a W, Fr 64 [(2, .pointer (some ⟨w.heap.size, 0, none⟩)), (3, .pointer (some ⟨w.heap.size + 1, 0, none⟩))] a → FBx ts (some ad) c0 fs A1 c1 f A2 c2 w W → Code.wp Tryd.prog T (bodyPost Tryd.prog Tryd.f25 (FnEnd w r)) a W) :
    Code.wp Tryd.prog (cutAt 2 c25 T) (bodyPost Tryd.prog Tryd.f25 (FnEnd w r)) { tmps := #[.agg #[.slice (some ad) ts.length c0, .slice A1 fs.length c1], .agg #[.int .i64 f.f0, .slice A2 f.f1.length c2], undef, undef, undef, undef, undef, undef, undef, undef, undef, undef, undef, undef, undef, undef, undef, undef, undef, undef, undef, undef, undef, undef, undef, undef, undef, undef, undef, undef, undef, undef, undef, undef, undef, undef, undef, undef, undef, undef, undef, undef, undef, undef, undef, undef, undef, undef, undef, undef, undef, undef, undef, undef, undef, undef, undef, undef, undef, undef, undef, undef, undef, undef], defers := [] } w := by
  have h01 : 0 ≤ f.f0 ∧ f.f0 < (ts.length : Int) := by unfold belowB at hs; simpa using hs
  have X0 := Lib.hid (fun (W : World) (hb : Below w.heap.size w W) => (hb.cell (World.block_lt_of_cell? _ _ x0)).trans x0)
  have X1 := Lib.hid (fun (W : World) (hb : Below w.heap.size w W) => (hb.cell (World.block_lt_of_cell? _ _ x1)).trans x1)
  have X2 := Lib.hid (fun (W : World) (hb : Below w.heap.size w W) => (hb.cell (World.block_lt_of_cell? _ _ x2)).trans x2)
  have X3 := Lib.hid (fun (W : World) (hb : Below w.heap.size w W) => (hb.cell (World.block_lt_of_cell? _ _ x3)).trans x3)
  have hw1 : IntKind.i64.wrap ((f.f1.length : Int) - 1) = (f.f1.length : Int) - 1 := by have := Kd.C_max hCb; rw [IntKind.wrap_i64]; omega
  have HPA := Lib.hid (fun W => below_any f.f0 ts.length W)
  have HPB := Lib.hid (fun W => below_any ((f.f1.length : Int) - 1) 16 W)
  have HMN : Hid (∀ W, Below w.heap.size w W → Calls Tryd.prog 42 #[.agg #[.int .i64 f.f0, .slice A2 f.f1.length c2]] W fun e w' => e = .returned (.int .i64 (manyF f.f1)) ∧ Below W.heap.size W w') := Lib.hid (fun W hb => many_call f.f0 A2 c2 f.f1 W (Kd.C_below hCb hb) hlb)
  rw [hs] at HPA
  generalize belowB ((f.f1.length : Int) - 1) 16 = pb at HPB hr hT
  obtain ⟨z1, w1⟩ : ∃ z, (t.f0 != 3) = z := ⟨_, rfl⟩
  generalize manyF f.f1 = mn at HMN hr hT
  obtain ⟨z2, w2⟩ : ∃ z, decide (128 < mn) = z := ⟨_, rfl⟩
  rw [w1, w2] at hr hT
  have HR0 := Lib.hid hr
  have HT := Lib.hid hT
  have p0 := eq_true h01.1
  have p1 := eq_true h01.2
  clear x0 x1 x2 x3 hr hT h01 hs hCb hlb
  conv => arg 2; whnf; arg 2; whnf
  go_wp2_with (first
    | (go_at_call 22; (with_reducible refine (HPA.out _).mono ?_); rintro e W1 ⟨rfl, hb⟩; have hm := (FBx.start ts (some ad) c0 fs A1 c1 f A2 c2 w).later hb; have HM := Lib.hid hm; obtain ⟨m00, m01, m10, m11⟩ := hm.cells; have hz := blk_lt hm.b1; have y0 := X0.out _ hm.below; have y1 := X1.out _ hm.below; have y2 := X2.out _ hm.below; have y3 := X3.out _ hm.below; clear hm hb)
    | (go_at_call 22; (with_reducible refine (HPB.out _).mono ?_); rintro e W1 ⟨rfl, hb⟩; have hm := HM.out.later hb; clear m00 m01 m10 m11 hz HM y0 y1 y2 y3; have HM := Lib.hid hm; obtain ⟨m00, m01, m10, m11⟩ := hm.cells; have hz := blk_lt hm.b1; have y0 := X0.out _ hm.below; have y1 := X1.out _ hm.below; have y2 := X2.out _ hm.below; have y3 := X3.out _ hm.below; clear hm hb)
    | (go_at_call 42; (with_reducible refine (HMN.out _ HM.out.below).mono ?_); rintro e W1 ⟨rfl, hb⟩; have hm := HM.out.later hb; clear m00 m01 m10 m11 hz HM y0 y1 y2 y3; have HM := Lib.hid hm; obtain ⟨m00, m01, m10, m11⟩ := hm.cells; have hz := blk_lt hm.b1; have y0 := X0.out _ hm.below; have y1 := X1.out _ hm.below; have y2 := X2.out _ hm.below; have y3 := X3.out _ hm.below; clear hm hb))
  rotate_left 2
  rotate_left
  · have hrr := HR0.out
    have HMB := HM.out.below
    clear HR0 HT HM HPA HPB HMN w1 w2 m00 m01 m10 m11 hz y0 y1 y2 y3 X0 X1 X2 X3
    go_ret
    refine ⟨?_, HMB⟩
    clear HMB
    rw [hrr (by simp_all [bad4])]
    rfl
  · have hrr := HR0.out
    have HMB := HM.out.below
    clear HR0 HT HM HPA HPB HMN w1 w2 m00 m01 m10 m11 hz y0 y1 y2 y3 X0 X1 X2 X3
    go_ret
    refine ⟨?_, HMB⟩
    clear HMB
    rw [hrr (by simp_all [bad4])]
    rfl
  · have hrr := HR0.out
    have HMB := HM.out.below
    clear HR0 HT HM HPA HPB HMN w1 w2 m00 m01 m10 m11 hz y0 y1 y2 y3 X0 X1 X2 X3
    go_ret
    refine ⟨?_, HMB⟩
    clear HMB
    rw [hrr (by simp_all [bad4])]
    rfl
  exact HT.out (by simp_all [bad4]) _ _ ⟨rfl, by intro p hp; simp only [List.mem_cons, List.not_mem_nil, or_false] at hp; rcases hp with rfl | rfl <;> rfl, rfl⟩ HM.out
set_option maxHeartbeats 6400000 in
set_option maxRecDepth 100000 in
theorem fn_tail (ts : List TTp) (ad : Addr) (c0 : Nat) (t : TTp) (A3 : Option Addr) (c3 : Nat) (fs : List TFn) (A1 : Option Addr) (c1 : Nat) (f : TFn) (A2 : Option Addr) (c2 : Nat) (w : World) (hCb : k36.C w A2 f.f1.length f.f1) (hlb : f.f1.length ≤ c2) (hop : ∀ b ∈ f.f1, ∀ x ∈ b.f0, opOk x) (hsh : ShTab w) (h01 : 0 ≤ f.f0 ∧ f.f0 < (ts.length : Int))
    (x0 : w.cell? (ad.add (f.f0.toNat * 4)) = some (.int .u8 t.f0)) (x1 : w.cell? ⟨(ad.add (f.f0.toNat * 4)).block, (ad.add (f.f0.toNat * 4)).off + 1, none⟩ = some (.int .i64 t.f1)) (x2 : w.cell? ⟨(ad.add (f.f0.toNat * 4)).block, (ad.add (f.f0.toNat * 4)).off + 2, none⟩ = some (.int .i64 t.f2)) (x3 : w.cell? ⟨(ad.add (f.f0.toNat * 4)).block, (ad.add (f.f0.toNat * 4)).off + 3, none⟩ = some (.slice A3 t.f3.length c3)) (a : Act) (W1 : World) (hfr : Fr 64 [(2, .pointer (some ⟨w.heap.size, 0, none⟩)), (3, .pointer (some ⟨w.heap.size + 1, 0, none⟩))] a) (h : FBx ts (some ad) c0 fs A1 c1 f A2 c2 w W1) :
    Code.wp Tryd.prog (rights 2 c25) (bodyPost Tryd.prog Tryd.f25 (FnEnd w (!f.f1.any (blkBad ts.length fs.length (wrap64 ((t.f3.length : Int) + manyF f.f1)) f.f1.length)))) a W1 := by
  obtain ⟨us, hus, rfl⟩ := open64 a hfr.size hfr.no
  have e2 := hfr.val hus 2 _ (List.mem_cons_self)
  have e3 := hfr.val hus 3 _ (List.mem_cons_of_mem _ (List.mem_cons_self))
  rw [e2, e3]
  clear e2 e3 hfr hus
  have X0 := Lib.hid (fun (W : World) (hb : Below w.heap.size w W) => (hb.cell (World.block_lt_of_cell? _ _ x0)).trans x0)
  have X1 := Lib.hid (fun (W : World) (hb : Below w.heap.size w W) => (hb.cell (World.block_lt_of_cell? _ _ x1)).trans x1)
  have X2 := Lib.hid (fun (W : World) (hb : Below w.heap.size w W) => (hb.cell (World.block_lt_of_cell? _ _ x2)).trans x2)
  have X3 := Lib.hid (fun (W : World) (hb : Below w.heap.size w W) => (hb.cell (World.block_lt_of_cell? _ _ x3)).trans x3)
  have HMN : Hid (∀ W, Below w.heap.size w W → Calls Tryd.prog 42 #[.agg #[.int .i64 f.f0, .slice A2 f.f1.length c2]] W fun e w' => e = .returned (.int .i64 (manyF f.f1)) ∧ Below W.heap.size W w') := Lib.hid (fun W hb => many_call f.f0 A2 c2 f.f1 W (Kd.C_below hCb hb) hlb)
  obtain ⟨s2, hs2⟩ : ∃ s, s = wrap64 ((t.f3.length : Int) + manyF f.f1) := ⟨_, rfl⟩
  have eg : ∀ args w, (callFunc 46 args).run Tryd.prog w = .ok (.enter 46 args) w := enters_of Tryd.func46 (by kernel_rfl) rfl
  have HNY : Hid (∀ (W : World) (B1 B2 : Nat), Below w.heap.size w W → W.heap[B2]? = some (.cells #[.int .i64 (ts.length : Int), .int .i64 (fs.length : Int), .int .i64 s2, .int .i64 (f.f1.length : Int)] 93 (0, 0)) → W.cell? ⟨B1, 0, none⟩ = some (.func (.func 43) #[] #[.pointer (some ⟨B2, 0, none⟩)]) →
      Calls Tryd.prog 45 #[.slice A2 f.f1.length c2, .func (.func 46) #[] #[.pointer (some ⟨B1, 0, none⟩), .pointer (some ⟨B2, 0, none⟩)]] W fun e w' => e = .returned (.bool (f.f1.any (blkBad ts.length fs.length s2 f.f1.length))) ∧ Below W.heap.size W w') := Lib.hid (fun W B1 B2 hbw hB2 hB1 =>
    has_Block 46 #[.pointer (some ⟨B1, 0, none⟩), .pointer (some ⟨B2, 0, none⟩)] eg A2 c2 f.f1 (blkBad ts.length fs.length s2 f.f1.length) W (Kd.C_below hCb hbw) hlb (fun W' b A5 c5 hx hb h1 h2 => (odd2 b A5 c5 ts.length fs.length s2 f.f1.length B1 B2 W' h2 h1 (hop b hx) (hsh.below (hbw.trans (hb.mono hbw.size))) (by rw [hb.block _ (blk_lt hB2), hB2]) ((hb.cell (World.block_lt_of_cell? _ _ hB1)).trans hB1)).mono fun e w' ⟨he, h5⟩ => ⟨he, hb.trans (h5.mono hb.size)⟩))
  have hmf : ∀ (fn : Fn) (first cap : Array Value) (w : World), (Instr.makeFunc fn first cap).run Tryd.prog w = .ok (.func fn first cap) w := fun _ _ _ _ => rfl
  rw [← hs2]
  generalize f.f1.any (blkBad ts.length fs.length s2 f.f1.length) = an at HNY ⊢
  generalize manyF f.f1 = mn at HMN hs2
  have hws : IntKind.i64.wrap ((t.f3.length : Int) + mn) = s2 := by rw [IntKind.wrap_i64, hs2]; unfold wrap64; omega
  have p0 := eq_true h01.1
  have p1 := eq_true h01.2
  have hm := h
  have HM := Lib.hid h
  obtain ⟨m00, m01, m10, m11⟩ := hm.cells; have hz := blk_lt hm.b1; have y0 := X0.out _ hm.below; have y1 := X1.out _ hm.below; have y2 := X2.out _ hm.below; have y3 := X3.out _ hm.below; have hz0 := blk_lt hm.b0; have hzz := Nat.lt_succ_of_lt hz; have hz1 := Nat.lt_succ_of_lt hz0; have yl := World.block_lt_of_cell? _ _ y3; have yl2 := Nat.lt_succ_of_lt yl; clear hm h
  clear x0 x1 x2 x3 hs2 eg h01 hCb hlb hop hsh
  have HSS : Hid (∀ w', FBx ts (some ad) c0 fs A1 c1 f A2 c2 w w' → FBx ts (some ad) c0 fs A1 c1 f A2 c2 w w' ∧ w'.cell? ⟨w.heap.size, 0, none⟩ = some (.slice (some ad) ts.length c0) ∧ w'.cell? ⟨w.heap.size, 1, none⟩ = some (.slice A1 fs.length c1) ∧ w'.cell? ⟨w.heap.size + 1, 0, none⟩ = some (.int .i64 f.f0) ∧ w'.cell? ⟨w.heap.size + 1, 1, none⟩ = some (.slice A2 f.f1.length c2) ∧ w'.cell? (ad.add (f.f0.toNat * 4)) = some (.int .u8 t.f0) ∧ w'.cell? ⟨(ad.add (f.f0.toNat * 4)).block, (ad.add (f.f0.toNat * 4)).off + 1, none⟩ = some (.int .i64 t.f1) ∧ w'.cell? ⟨(ad.add (f.f0.toNat * 4)).block, (ad.add (f.f0.toNat * 4)).off + 2, none⟩ = some (.int .i64 t.f2) ∧ w'.cell? ⟨(ad.add (f.f0.toNat * 4)).block, (ad.add (f.f0.toNat * 4)).off + 3, none⟩ = some (.slice A3 t.f3.length c3)) := Lib.hid (fun w' h => ⟨h, h.cells.1, h.cells.2.1, h.cells.2.2.1, h.cells.2.2.2, X0.out _ h.below, X1.out _ h.below, X2.out _ h.below, X3.out _ h.below⟩)
  conv => arg 2; whnf
  go_wp2
  go_region_held3 (fun w' => FBx ts (some ad) c0 fs A1 c1 f A2 c2 w w' ∧ w'.cell? ⟨w.heap.size, 0, none⟩ = some (.slice (some ad) ts.length c0) ∧ w'.cell? ⟨w.heap.size, 1, none⟩ = some (.slice A1 fs.length c1) ∧ w'.cell? ⟨w.heap.size + 1, 0, none⟩ = some (.int .i64 f.f0) ∧ w'.cell? ⟨w.heap.size + 1, 1, none⟩ = some (.slice A2 f.f1.length c2) ∧ w'.cell? (ad.add (f.f0.toNat * 4)) = some (.int .u8 t.f0) ∧ w'.cell? ⟨(ad.add (f.f0.toNat * 4)).block, (ad.add (f.f0.toNat * 4)).off + 1, none⟩ = some (.int .i64 t.f1) ∧ w'.cell? ⟨(ad.add (f.f0.toNat * 4)).block, (ad.add (f.f0.toNat * 4)).off + 2, none⟩ = some (.int .i64 t.f2) ∧ w'.cell? ⟨(ad.add (f.f0.toNat * 4)).block, (ad.add (f.f0.toNat * 4)).off + 3, none⟩ = some (.slice A3 t.f3.length c3))
    (first
      | exact HSS.out _ (HM.out.later (below_drew (Below.refl _ _)))
      | exact HSS.out _ HM2.out
      | exact HSS.out _ (HM2.out.later (below_alloc (Below.refl _ _) _))
      | exact HSS.out _ (FBx.set (FBx.set (FBx.set (FBx.set HM2.out hz _ _) hz _ _) hz _ _) hz _ _)
      | exact HSS.out _ (HM.out.later (below_drew (below_alloc (Below.refl _ _) _)))
      | exact HSS.out _ (HM.out.later (below_alloc (below_drew (Below.refl _ _)) _)))
    (first
      | (go_at_call 42; refine (HMN.out _ ?hbl).mono ?_; (case hbl => (repeat (first | (with_reducible first | exact HM.out.below | apply below_alloc | apply pw_below_drewN | apply below_drew1) | exact HM.out.below))); rintro e W2 ⟨rfl, hb⟩; have HM2 := Lib.hid ((HM.out.later (by repeat (first | exact Below.refl _ _ | apply below_alloc | apply pw_below_drewN | apply below_drew1))).later hb); (first | (refine box_then (n := W1.heap.size) hb ?_ ?_; (focus (exact heap_alloc_new _ _)); intro hbx j0 j1 j2 j3 k0 k1 k2 k3; have HBX := Lib.hid hbx; clear hbx) | skip)))
  · have hcc := HM2.out.cells.2.2.2
    have hz2 := blk_lt HM2.out.b1
    have hz3 := Nat.lt_succ_of_lt hz2
    go_wp2_with (fail)
    refine (HNY.out _ (W2.heap.size + 1) W2.heap.size (below_alloc (below_alloc HM2.out.below _) _) ?_ ?_).mono ?_
    · rw [(below_alloc (Below.refl _ (W2.alloc _)) _).block _ (by simp)]; exact heap_alloc_new W2 _
    · simp
    rintro e w3 ⟨rfl, hb3⟩
    go_wp2
    go_ret
    exact ⟨rfl, (below_alloc (below_alloc HM2.out.below _) _).trans (hb3.mono (by have := HM2.out.below.size; simp; omega))⟩
  · have hx : ((((W2.setCell ⟨W1.heap.size, 0, none⟩ (.int .i64 (ts.length : Int))).setCell ⟨W1.heap.size, 1, none⟩ (.int .i64 (fs.length : Int))).setCell ⟨W1.heap.size, 2, none⟩ (.int .i64 s2)).setCell ⟨W1.heap.size, 3, none⟩ (.int .i64 (f.f1.length : Int))).heap[W1.heap.size]? = some (.cells #[.int .i64 (ts.length : Int), .int .i64 (fs.length : Int), .int .i64 s2, .int .i64 (f.f1.length : Int)] 93 (0, 0)) := by
      rw [heap_set (heap_set (heap_set (heap_set HBX.out _) _) _)]; rfl
    have hfx := FBx.set (FBx.set (FBx.set (FBx.set HM2.out hz 0 (.int .i64 (ts.length : Int))) hz 1 (.int .i64 (fs.length : Int))) hz 2 (.int .i64 s2)) hz 3 (.int .i64 (f.f1.length : Int))
    have hcc := hfx.cells.2.2.2
    generalize (((W2.setCell ⟨W1.heap.size, 0, none⟩ (.int .i64 (ts.length : Int))).setCell ⟨W1.heap.size, 1, none⟩ (.int .i64 (fs.length : Int))).setCell ⟨W1.heap.size, 2, none⟩ (.int .i64 s2)).setCell ⟨W1.heap.size, 3, none⟩ (.int .i64 (f.f1.length : Int)) = W5 at hx hfx hcc ⊢
    have HX := Lib.hid hx
    have HFX := Lib.hid hfx
    have hz5 := blk_lt hfx.b1
    clear hx hfx
    go_wp2_with (fail)
    refine (HNY.out _ W5.heap.size W1.heap.size (below_alloc HFX.out.below _) ?_ ?_).mono ?_
    · rw [(below_alloc (Below.refl _ W5) _).block _ (blk_lt HX.out)]; exact HX.out
    · simp
    rintro e w3 ⟨rfl, hb3⟩
    go_wp2
    go_ret
    exact ⟨rfl, (below_alloc HFX.out.below _).trans (hb3.mono (by have := HFX.out.below.size; simp; omega))⟩
theorem boxkeep {w W1 : World} {o : Obj} (hb : Below (w.alloc o).heap.size (w.alloc o) W1) : W1.heap[w.heap.size]? = some o := by
  rw [hb.block _ (by simp)]; exact heap_alloc_new w _
theorem fn_call (ts : List TTp) (A0 : Option Addr) (c0 : Nat) (fs : List TFn) (A1 : Option Addr) (c1 : Nat) (f : TFn) (A2 : Option Addr) (c2 : Nat) (w : World) (hCt : k41.C w A0 ts.length ts) (hCb : k36.C w A2 f.f1.length f.f1) (hlb : f.f1.length ≤ c2) (hop : ∀ b ∈ f.f1, ∀ x ∈ b.f0, opOk x) (hsh : ShTab w) : Calls Tryd.prog 25 #[.agg #[.slice A0 ts.length c0, .slice A1 fs.length c1], .agg #[.int .i64 f.f0, .slice A2 f.f1.length c2]] w (FnEnd w (fnB ts fs.length f)) := by
  cases hs : belowB f.f0 ts.length with
  | false =>
    have e : fnB ts fs.length f = false := by unfold fnB fnBad; rw [hs]; rfl
    rw [e]
    exact fn_sig ts A0 c0 fs A1 c1 f A2 c2 w hCt hCb hlb hop hsh hs
  | true =>
    have h01 : 0 ≤ f.f0 ∧ f.f0 < (ts.length : Int) := by unfold belowB at hs; simpa using hs
    obtain ⟨ad, A3, c3, rfl, x0, x1, x2, x3, l3, g3⟩ := at_T41 hCt f.f0 h01.1 h01.2
    have eb : fnBad ts f = bad4 ((rd_T41 ts f.f0).f0 != 3) (belowB ((f.f1.length : Int) - 1) 16) (decide (128 < manyF f.f1)) := by unfold fnBad bad4; rw [hs]; rfl
    refine enter25 ts (some ad) c0 fs A1 c1 f A2 c2 w _ ?_
    rw [c25_cut]
    refine fn_head ts ad c0 _ A3 c3 fs A1 c1 f A2 c2 w hCb hlb hs x0 x1 x2 x3 _ _ (fun hb => by unfold fnB; rw [eb, if_pos hb]) (fun hb a W hfr hW => ?_)
    have e : fnB ts fs.length f = !f.f1.any (blkBad ts.length fs.length (wrap64 (((rd_T41 ts f.f0).f3.length : Int) + manyF f.f1)) f.f1.length) := by unfold fnB; rw [eb, if_neg (by rw [hb]; decide)]
    rw [e]
    exact fn_tail ts ad c0 _ A3 c3 fs A1 c1 f A2 c2 w hCb hlb hop hsh h01 x0 x1 x2 x3 a W hfr hW
set_option maxHeartbeats 800000 in
theorem chk1 (ts : List TTp) (A0 : Option Addr) (c0 : Nat) (fs : List TFn) (A1 : Option Addr) (c1 : Nat) (f : TFn) (A2 : Option Addr) (c2 : Nat) (B : Nat) (w : World) (hCt : k41.C w A0 ts.length ts) (hCb : k36.C w A2 f.f1.length f.f1) (hlb : f.f1.length ≤ c2) (hop : ∀ b ∈ f.f1, ∀ x ∈ b.f0, opOk x) (hsh : ShTab w) (hB : w.heap[B]? = some (.cells #[.slice A0 ts.length c0, .slice A1 fs.length c1] 25 (0, 0))) :
    Calls Tryd.prog 24 #[.agg #[.int .i64 f.f0, .slice A2 f.f1.length c2], .pointer (some ⟨B, 0, none⟩)] w fun e w' => e = .returned (.bool (!fnB ts fs.length f)) ∧ Below w.heap.size w w' := by
  have HF : Hid (∀ W, Below w.heap.size w W → Calls Tryd.prog 25 #[.agg #[.slice A0 ts.length c0, .slice A1 fs.length c1], .agg #[.int .i64 f.f0, .slice A2 f.f1.length c2]] W (FnEnd W (fnB ts fs.length f))) := Lib.hid (fun W hb => fn_call ts A0 c0 fs A1 c1 f A2 c2 W (Kd.C_below hCt hb) (Kd.C_below hCb hb) hlb hop (hsh.below hb))
  have k0 : w.cell? ⟨B, 0, none⟩ = some (.slice A0 ts.length c0) := by simp [World.cell?, hB]
  have k1 : w.cell? ⟨B, 1, none⟩ = some (.slice A1 fs.length c1) := by simp [World.cell?, hB]
  have hlt := blk_lt hB
  generalize fnB ts fs.length f = r at HF ⊢
  clear hCt hCb hlb hop hsh hB
  go_enter Tryd.func24, Tryd.ntmps24
  go_wp2_with (go_at_call 25; refine (HF.out _ (below_alloc (Below.refl _ _) _)).mono ?_; rintro e w' ⟨rfl, hb⟩)
  go_ret
  exact ⟨rfl, (below_alloc (Below.refl _ w) _).trans (hb.mono (by simp))⟩
def opsOk (fs : List TFn) : Bool := fs.all fun f => f.f1.all fun b => b.f0.all fun x => decide (0 ≤ x.f0) && decide (x.f0 ≤ 255)
theorem opsOk_mem {fs : List TFn} (h : opsOk fs = true) : ∀ f ∈ fs, ∀ b ∈ f.f1, ∀ x ∈ b.f0, opOk x := by
  intro f hf b hb x hx
  have := List.all_eq_true.1 (List.all_eq_true.1 (List.all_eq_true.1 h f hf) b hb) x hx
  simpa [opOk] using this
def chkF (ts : List TTp) (fs : List TFn) : Int := if !belowB ((fs.length : Int) - 1) 8 || fs.any (fun f => !fnB ts fs.length f) then 60 else 0
end Go.Proofs.YtlghkomipboflaaDoor.Sh
namespace Go.Proofs.YtlghkomipboflaaDoor.X
open Go.RowKit Go.Proofs.YtlghkomipboflaaDoor Go.Proofs.YtlghkomipboflaaDoor.Sh Go.Proofs.YtlghkomipboflaaDoorW.PrintWords Go.Proofs.YtlghkomipboflaaDoorW.PrintLast Go.Proofs.YtlghkomipboflaaDoorW.PrintMore
def shape_Check.f (ts : List S41) (fs : List S31) : Option Int :=
  (types_Check.f 20 ts).bind fun e => if e = 0 then (if opsOk fs = true then some (chkF ts fs) else none) else some e
set_option maxHeartbeats 1600000 in
set_option maxRecDepth 100000 in
theorem shape_Check.calls (A0 : Option Addr) (c0 : Nat) (ts : List S41) (A1 : Option Addr) (c1 : Nat) (fs : List S31) (r : Int) (w : World) (hr0 : k41.C w A0 ts.length ts) (hc0 : ts.length ≤ c0) (hr1 : k31.C w A1 fs.length fs) (hc1 : fs.length ≤ c1) (h : shape_Check.f ts fs = some r) (hsh : ShTab w) :
    Calls Tryd.prog 12 #[.agg #[.slice A0 ts.length c0, .slice A1 fs.length c1]] w fun e w' => e = .returned (.int .i64 r) ∧ Below w.heap.size w w' := by
  unfold shape_Check.f at h
  obtain ⟨e0, he0, h⟩ := Option.bind_eq_some_iff.1 h
  have HTC : Hid (∀ W, Below w.heap.size w W → Calls Tryd.prog 21 #[.slice A0 ts.length c0] W fun e w' => e = .returned (.int .i64 e0) ∧ Below W.heap.size W w') := Lib.hid (fun W hb => types_Check.calls 20 A0 c0 ts e0 W (Kd.C_below hr0 hb) hc0 he0)
  have hmf : ∀ (fn : Fn) (first cap : Array Value) (w : World), (Instr.makeFunc fn first cap).run Tryd.prog w = .ok (.func fn first cap) w := fun _ _ _ _ => rfl
  have hw1 : IntKind.i64.wrap ((fs.length : Int) - 1) = (fs.length : Int) - 1 := by have := Kd.C_max hr1; rw [IntKind.wrap_i64]; omega
  by_cases hz : e0 = 0
  · subst hz
    rw [if_pos rfl] at h
    by_cases hop : opsOk fs = true
    · rw [if_pos hop] at h
      have hrr := (Option.some.inj h).symm
      have eg : ∀ args w, (callFunc 24 args).run Tryd.prog w = .ok (.enter 24 args) w := enters_of Tryd.func24 (by kernel_rfl) rfl
      have HNY : Hid (∀ (W : World), Below w.heap.size w W → W.heap[w.heap.size]? = some (.cells #[.slice A0 ts.length c0, .slice A1 fs.length c1] 25 (0, 0)) →
          Calls Tryd.prog 23 #[.slice A1 fs.length c1, .func (.func 24) #[] #[.pointer (some ⟨w.heap.size, 0, none⟩)]] W fun e w' => e = .returned (.bool (fs.any (fun f => !fnB ts fs.length f))) ∧ Below W.heap.size W w') := Lib.hid (fun W hbw hB =>
        has_Func 24 #[.pointer (some ⟨w.heap.size, 0, none⟩)] eg A1 c1 fs (fun f => !fnB ts fs.length f) W (Kd.C_below hr1 hbw) hc1 (fun W' f A2 c2 hx hb h1 h2 => (chk1 ts A0 c0 fs A1 c1 f A2 c2 w.heap.size W' (Kd.C_below hr0 (hbw.trans (hb.mono hbw.size))) h2 h1 (opsOk_mem hop f hx) (hsh.below (hbw.trans (hb.mono hbw.size))) (by rw [hb.block _ (blk_lt hB), hB])).mono fun e w' ⟨he, h5⟩ => ⟨he, hb.trans (h5.mono hb.size)⟩))
      have HPB := Lib.hid (fun W => below_any ((fs.length : Int) - 1) 8 W)
      unfold chkF at hrr
      generalize fs.any (fun f => !fnB ts fs.length f) = an at HNY hrr
      generalize belowB ((fs.length : Int) - 1) 8 = pb at HPB hrr
      clear eg hr0 hc0 hr1 hc1 h he0 hop hsh
      cases pb with
      | false =>
        have e : r = 60 := hrr
        subst e
        clear hrr
        go_enter Tryd.func12, Tryd.ntmps12
        go_wp2_with (first
          | (go_at_call 21; refine (HTC.out _ (below_alloc (Below.refl _ _) _)).mono ?_; rintro e W1 ⟨rfl, hb⟩; have HB1 := Lib.hid ((below_alloc (Below.refl _ w) _).trans (hb.mono (by simp))); have hx := boxkeep hb; have m0 : W1.cell? ⟨w.heap.size, 1, none⟩ = some (.slice A1 fs.length c1) := (blk_cell hx 1).trans rfl; have HX := Lib.hid hx; clear hb hx)
          | (go_at_call 22; refine (HPB.out _).mono ?_; rintro e W2 ⟨rfl, hb⟩; have HB2 := Lib.hid (HB1.out.trans (hb.mono HB1.out.size)); clear hb))
        go_ret
        exact ⟨rfl, HB2.out⟩
      | true =>
        cases an
        · have e : r = 0 := hrr
          subst e
          clear hrr
          go_enter Tryd.func12, Tryd.ntmps12
          go_wp2_with (first
            | (go_at_call 21; refine (HTC.out _ (below_alloc (Below.refl _ _) _)).mono ?_; rintro e W1 ⟨rfl, hb⟩; have HB1 := Lib.hid ((below_alloc (Below.refl _ w) _).trans (hb.mono (by simp))); have hx := boxkeep hb; have m0 : W1.cell? ⟨w.heap.size, 1, none⟩ = some (.slice A1 fs.length c1) := (blk_cell hx 1).trans rfl; have HX := Lib.hid hx; clear hb hx)
            | (go_at_call 22; refine (HPB.out _).mono ?_; rintro e W2 ⟨rfl, hb⟩; have HB2 := Lib.hid (HB1.out.trans (hb.mono HB1.out.size)); have hx := (hb.block _ (blk_lt HX.out)).trans HX.out; clear m0; have m0 : W2.cell? ⟨w.heap.size, 1, none⟩ = some (.slice A1 fs.length c1) := (blk_cell hx 1).trans rfl; have HX2 := Lib.hid hx; clear hb hx)
            | (go_at_call 23; refine (HNY.out _ HB2.out HX2.out).mono ?_; rintro e W3 ⟨rfl, hb⟩; have HB3 := Lib.hid (HB2.out.trans (hb.mono HB2.out.size)); clear hb))
          go_ret
          exact ⟨rfl, HB3.out⟩
        · have e : r = 60 := hrr
          subst e
          clear hrr
          go_enter Tryd.func12, Tryd.ntmps12
          go_wp2_with (first
            | (go_at_call 21; refine (HTC.out _ (below_alloc (Below.refl _ _) _)).mono ?_; rintro e W1 ⟨rfl, hb⟩; have HB1 := Lib.hid ((below_alloc (Below.refl _ w) _).trans (hb.mono (by simp))); have hx := boxkeep hb; have m0 : W1.cell? ⟨w.heap.size, 1, none⟩ = some (.slice A1 fs.length c1) := (blk_cell hx 1).trans rfl; have HX := Lib.hid hx; clear hb hx)
            | (go_at_call 22; refine (HPB.out _).mono ?_; rintro e W2 ⟨rfl, hb⟩; have HB2 := Lib.hid (HB1.out.trans (hb.mono HB1.out.size)); have hx := (hb.block _ (blk_lt HX.out)).trans HX.out; clear m0; have m0 : W2.cell? ⟨w.heap.size, 1, none⟩ = some (.slice A1 fs.length c1) := (blk_cell hx 1).trans rfl; have HX2 := Lib.hid hx; clear hb hx)
            | (go_at_call 23; refine (HNY.out _ HB2.out HX2.out).mono ?_; rintro e W3 ⟨rfl, hb⟩; have HB3 := Lib.hid (HB2.out.trans (hb.mono HB2.out.size)); clear hb))
          go_ret
          exact ⟨rfl, HB3.out⟩
    · rw [if_neg hop] at h; cases h
  · rw [if_neg hz] at h
    have e : e0 = r := Option.some.inj h
    subst e
    have n0 : (e0 == 0) = false := beq_eq_false_iff_ne.2 hz
    have n1 : (e0 != 0) = true := bne_iff_ne.2 hz
    clear hr0 hc0 hr1 hc1 h he0 hsh hz
    go_enter Tryd.func12, Tryd.ntmps12
    go_wp2_with (go_at_call 21; refine (HTC.out _ (below_alloc (Below.refl _ _) _)).mono ?_; rintro e W1 ⟨rfl, hb⟩; have HB1 := Lib.hid ((below_alloc (Below.refl _ w) _).trans (hb.mono (by simp))); clear hb)
    go_ret
    exact ⟨rfl, HB1.out⟩
end Go.Proofs.YtlghkomipboflaaDoor.X
end
section
namespace Go.Proofs.YtlghkomipboflaaDoor.X
open Go.RowKit Go.Proofs.YtlghkomipboflaaDoor Go.Proofs.YtlghkomipboflaaDoor.Rd Go.Proofs.YtlghkomipboflaaDoor.Sh Go.Proofs.YtlghkomipboflaaDoorW.PrintWords Go.Proofs.YtlghkomipboflaaDoorW.PrintLast Go.Proofs.YtlghkomipboflaaDoorW.PrintMore
set_option linter.unusedVariables false
set_option linter.unusedSimpArgs false
def read_Read.f (s : ByteArray) : Option (List S41 × List S31 × Int) :=
  if (linesP s).2 = 0 then
    match progF (linesP s).1 with
    | none => some ([], [], 70)
    | some (ts, fs) => (shape_Check.f ts fs).bind fun e => if e = 0 then some (ts, fs, 0) else some ([], [], e)
  else some ([], [], (linesP s).2)
theorem boxkeep2 {w W1 : World} {o1 o2 : Obj} (hb : Below ((w.alloc o1).alloc o2).heap.size ((w.alloc o1).alloc o2) W1) : W1.heap[w.heap.size]? = some o1 ∧ W1.heap[w.heap.size + 1]? = some o2 := by
  refine ⟨?_, ?_⟩
  · rw [hb.block _ (by simp; omega), (below_alloc (Below.refl _ (w.alloc o1)) o2).block _ (by simp)]; exact heap_alloc_new w _
  · rw [hb.block _ (by simp)]
    have := heap_alloc_new (w.alloc o1) o2
    simpa using this
structure Bx (w : World) (v0 v1 v2 : Value) (W : World) : Prop where
  below : Below w.heap.size w W
  b0 : W.heap[w.heap.size]? = some (.cells #[v0, v1] 25 (0, 0))
  b1 : W.heap[w.heap.size + 1]? = some (.cells #[v2] 26 (0, 0))
section
variable {w W W1 : World} {v0 v1 v2 : Value}
theorem Bx.later (h : Bx w v0 v1 v2 W) (hb : Below W.heap.size W W1) : Bx w v0 v1 v2 W1 :=
  ⟨h.below.trans (hb.mono h.below.size), by rw [hb.block _ (blk_lt h.b0)]; exact h.b0, by rw [hb.block _ (blk_lt h.b1)]; exact h.b1⟩
theorem Bx.setE (h : Bx w v0 v1 v2 W) (v : Value) : Bx w v0 v1 v (W.setCell ⟨w.heap.size + 1, 0, none⟩ v) :=
  ⟨h.below.setCell (Nat.le_succ _) _, by rw [Below.heap_setCell _ _ _ _ (by show w.heap.size ≠ w.heap.size + 1; omega)]; exact h.b0, by rw [heap_set h.b1]; rfl⟩
theorem Bx.setP (h : Bx w v0 v1 v2 W) (u0 u1 : Value) : Bx w u0 u1 v2 ((W.setCell ⟨w.heap.size, 0, none⟩ u0).setCell ⟨w.heap.size, 1, none⟩ u1) :=
  ⟨(h.below.setCell (Nat.le_refl _) _).setCell (Nat.le_refl _) _, by rw [heap_set (heap_set h.b0 _)]; rfl, by rw [Below.heap_setCell _ _ _ _ (by show w.heap.size + 1 ≠ w.heap.size; omega), Below.heap_setCell _ _ _ _ (by show w.heap.size + 1 ≠ w.heap.size; omega)]; exact h.b1⟩
theorem Bx.c0 (h : Bx w v0 v1 v2 W) : W.cell? ⟨w.heap.size, 0, none⟩ = some v0 := (blk_cell h.b0 0).trans rfl
theorem Bx.c1 (h : Bx w v0 v1 v2 W) : W.cell? ⟨w.heap.size, 1, none⟩ = some v1 := (blk_cell h.b0 1).trans rfl
theorem Bx.c2 (h : Bx w v0 v1 v2 W) : W.cell? ⟨w.heap.size + 1, 0, none⟩ = some v2 := (blk_cell h.b1 0).trans rfl
end
theorem read_res {w W : World} {u0 u1 : Value} {n : Int} {tmps : Array Value} (h2 : tmps.getD 2 undef = .pointer (some ⟨w.heap.size, 0, none⟩)) (h3 : tmps.getD 3 undef = .pointer (some ⟨w.heap.size + 1, 0, none⟩)) (h : Bx w u0 u1 (.int .i64 n) W) :
    (results Tryd.f7 tmps).run Tryd.prog W = .ok (.tuple #[.agg #[u0, u1], .int .i64 n]) W := by
  have c0 := h.c0
  have c1 := h.c1
  have c2 := h.c2
  rw [Array.getD_eq_getD_getElem?] at h2 h3
  simp [results, Tryd.results7, h2, h3, go_sem, c0, c1, c2]
theorem Bx.drawn {w W : World} {v0 v1 v2 : Value} (h : Bx w v0 v1 v2 W) : Bx w v0 v1 v2 W.drew := h.later (below_drew (Below.refl _ _))
def ReadEnd (w : World) (r1 : List S41) (r2 : List S31) (r3 : Int) (e : Ending) (w' : World) : Prop :=
  ∃ v0 v1, e = .returned (.tuple #[.agg #[v0, v1], .int .i64 r3]) ∧ Kd.S k41 41 w' w.heap.size (fun _ => True) v0 r1 ∧ Kd.R k31 31 w' w.heap.size (fun _ => True) v1 r2 ∧ Below w.heap.size w w'
set_option maxHeartbeats 1600000 in
set_option maxRecDepth 100000 in
theorem read_none (s : ByteArray) (w : World) (n2 : (linesP s).2 ≠ 0) : Calls Tryd.prog 7 #[.string s] w (ReadEnd w [] [] (linesP s).2) := by
  have HL := Lib.hid (fun W => lex_Lines.calls s (linesP s).1 (linesP s).2 W rfl)
  have q0 : ((linesP s).2 == 0) = false := beq_eq_false_iff_ne.2 n2
  have q1 : ((linesP s).2 != 0) = true := bne_iff_ne.2 n2
  generalize (linesP s).2 = e2 at *
  generalize (linesP s).1 = ls at *
  clear n2
  go_enter_defers Tryd.func7, Tryd.ntmps7
  go_wp2_with (go_at_call 11; refine (HL.out _).mono ?_; rintro e W1 ⟨vL, rfl, hS, hb⟩; obtain ⟨hx0, hx1⟩ := boxkeep2 hb; have hm : Bx w _ _ _ W1 := ⟨(below_alloc (below_alloc (Below.refl _ _) _) _).trans (hb.mono (by simp; omega)), hx0, hx1⟩; have m0 := hm.c0; have m1 := hm.c1; have m2 := hm.c2; have f0 := blk_frozen hx0 0; have f1 := blk_frozen hx0 1; have f2 := blk_frozen hx1 0; have HM := Lib.hid hm; have HS := Lib.hid hS; clear hb hx0 hx1 hS hm)
  have hm := HM.out.setE (.int .i64 e2)
  clear m0 m1 m2 f0 f1 f2
  generalize W1.setCell ⟨w.heap.size + 1, 0, none⟩ (.int .i64 e2) = W2 at hm ⊢
  have m0 := hm.c0
  have m1 := hm.c1
  have m2 := hm.c2
  have f0 := blk_frozen hm.b0 0
  have f1 := blk_frozen hm.b0 1
  have f2 := blk_frozen hm.b1 0
  have HM2 := Lib.hid hm
  clear hm
  go_region
  all_goals
    go_wp2
    have hm3 := ((HM2.out.setP (.slice none 0 0) (.slice none 0 0)).setE (.int .i64 e2)).drawn
    exact ⟨_, read_res rfl rfl hm3, _, _, rfl, Kd.S_nil _ _ _ _ _, Kd.R_nil _ _ _ _ _, hm3.below⟩
theorem at_start {W : World} {ls : List (List ByteArray)} {AL : Option Addr} {cL : Nat} (hl : ls.length ≤ cL) (hC : KL.C W AL ls.length ls) : Rd.At W ls [] (.slice none 0 0) (.slice none 0 0) (W.alloc (.cells #[.slice AL ls.length cL, .slice none 0 0, .slice none 0 0, .slice none 0 0] 63)) :=
  ⟨below_alloc (Below.refl _ _) _, _, _, heap_alloc_new W _, ⟨AL, cL, rfl, hl, hC⟩, ⟨none, 0, rfl, Nat.le_refl _, Kd.C_nil _ _⟩⟩
set_option maxHeartbeats 3200000 in
set_option maxRecDepth 100000 in
theorem read_some (s : ByteArray) (w : World) (r1 : List S41) (r2 : List S31) (r3 : Int) (hsh : ShTab w) (n2 : (linesP s).2 = 0)
    (h : (match progF (linesP s).1 with
      | none => some ([], [], 70)
      | some (ts, fs) => (shape_Check.f ts fs).bind fun e => if e = 0 then some (ts, fs, 0) else some ([], [], e)) = some (r1, r2, r3)) :
    Calls Tryd.prog 7 #[.string s] w (ReadEnd w r1 r2 r3) := by
  have HL := Lib.hid (fun W => lex_Lines.calls s (linesP s).1 (linesP s).2 W rfl)
  have hfine := linesP_fine s
  have hlen : (linesP s).1.length ≤ 1000000 := by have := (linesP_good s).2; omega
  rw [n2] at HL
  generalize (linesP s).1 = ls at *
  have hmf : ∀ (fn : Fn) (first cap : Array Value) (w : World), (Instr.makeFunc fn first cap).run Tryd.prog w = .ok (.func fn first cap) w := fun _ _ _ _ => rfl
  have HH := Lib.hid h
  have HSH := Lib.hid hsh
  have HF := Lib.hid hfine
  clear n2 h hsh hfine
  go_enter_defers Tryd.func7, Tryd.ntmps7
  go_wp2_with (go_at_call 11; refine (HL.out _).mono ?_; rintro e W1 ⟨vL, rfl, hS, hb⟩; obtain ⟨AL, cL, rfl⟩ := Kd.S_slice hS; obtain ⟨hx0, hx1⟩ := boxkeep2 hb; have hm : Bx w _ _ _ W1 := ⟨(below_alloc (below_alloc (Below.refl _ _) _) _).trans (hb.mono (by simp; omega)), hx0, hx1⟩; have m0 := hm.c0; have m1 := hm.c1; have m2 := hm.c2; have f0 := blk_frozen hx0 0; have f1 := blk_frozen hx0 1; have f2 := blk_frozen hx1 0; have HM := Lib.hid hm; have HS := Lib.hid hS; clear hb hx0 hx1 hS hm)
  have hm := HM.out.setE (.int .i64 0)
  have hS2 := S_on HS.out (b := w.heap.size + 1) (by simp) 0 (.int .i64 0)
  have hz : (W1.setCell ⟨w.heap.size + 1, 0, none⟩ (.int .i64 0)).heap.size = W1.heap.size := set_size _ _ _
  clear m0 m1 m2 f0 f1 f2 HM HS
  generalize W1.setCell ⟨w.heap.size + 1, 0, none⟩ (.int .i64 0) = W2 at hm hS2 hz ⊢
  rw [← hz]
  clear hz
  have hC := Kd.S_reads' hS2
  have hlt := blk_lt hm.b1
  refine (prog_call W2 (HSH.out.below hm.below) ls HF.out hlen _ (at_start hC.2.1 hC.2.2)).mono ?_
  have HM := Lib.hid hm
  have hh := HH.out
  clear hC hS2 HH hm
  unfold Goes
  cases hp : progF ls with
  | none =>
    rw [hp] at hh
    obtain ⟨rfl, rfl, rfl⟩ : r1 = [] ∧ r2 = [] ∧ r3 = 70 := by simp at hh; exact ⟨hh.1, hh.2.1, hh.2.2.symm⟩
    rintro e w' ⟨rfl, hb⟩
    have hm' := HM.out.later hb
    refine leaves_cons (f := 16) (args := #[.pointer (some ⟨w.heap.size, 0, none⟩), .pointer (some ⟨w.heap.size + 1, 0, none⟩)]) (by simp) (by simp [go_sem]) ?_
    refine (catch_gave w.heap.size (w.heap.size + 1) (by omega) _ _ _ _ hm'.b0 hm'.b1).mono ?_
    rintro e u' w'' ⟨rfl, rfl, g1, g2, g3⟩
    have hm2 : Bx w (.slice none 0 0) (.slice none 0 0) (.int .i64 70) w'' := ⟨hm'.below.trans (g3 _ (Nat.le_refl _) (Nat.le_succ _)), g1, g2⟩
    exact ⟨_, read_res rfl rfl hm2, _, _, rfl, Kd.S_nil _ _ _ _ _, Kd.R_nil _ _ _ _ _, hm2.below⟩
  | some p =>
    obtain ⟨ts, fs⟩ := p
    rw [hp] at hh
    obtain ⟨e0, he0, hh⟩ := Option.bind_eq_some_iff.1 hh
    rintro e w3 ⟨vt, vf, rfl, hat, hSt, hRf⟩
    obtain ⟨At_, ct, rfl⟩ := Kd.S_slice hSt
    obtain ⟨Af, cf, rfl⟩ := Kd.R_slice hRf
    have hm3 := HM.out.later hat.below
    have c1 := Kd.S_reads' hSt
    have c2 := Kd.R_reads' hRf
    have HCK := Lib.hid (shape_Check.calls At_ ct ts Af cf fs e0 w3 c1.2.2 c1.2.1 c2.2.2 c2.2.1 he0 (HSH.out.below hm3.below))
    obtain ⟨vl, vw, hr, _⟩ := hat.rb
    have HM3 := Lib.hid hm3
    have HRB := Lib.hid hr
    have HST := Lib.hid hSt
    have HRF := Lib.hid hRf
    have hlt2 : w.heap.size + 1 < W2.heap.size := hlt
    have q2 := hr.c2
    have q3 := hr.c3
    clear c1 c2 hat hr hSt hRf hm3 he0 hp hlen
    by_cases hz : e0 = 0
    · subst hz
      rw [if_pos rfl] at hh
      obtain ⟨rfl, rfl, rfl⟩ : r1 = ts ∧ r2 = fs ∧ r3 = 0 := by simp at hh; exact ⟨hh.1.symm, hh.2.1.symm, hh.2.2.symm⟩
      clear hh
      go_wp2_with (go_at_call 12; refine HCK.out.mono ?_; rintro e w4 ⟨rfl, hb4⟩; clear q2 q3; have hr4 := HRB.out.of_block (hb4.block _ HRB.out.lt); have q2 := hr4.c2; have q3 := hr4.c3; have hm4 := HM3.out.later hb4; have m0 := hm4.c0; have m1 := hm4.c1; have m2 := hm4.c2; have f0 := blk_frozen hm4.b0 0; have f1 := blk_frozen hm4.b0 1; have f2 := blk_frozen hm4.b1 0; have HM4 := Lib.hid hm4; have HB4 := Lib.hid hb4; clear hr4 hm4 hb4)
      have hm5 := (HM4.out.setP (.slice At_ r1.length ct) (.slice Af r2.length cf)).setE (.int .i64 0)
      refine leaves_cons (f := 16) (args := #[.pointer (some ⟨w.heap.size, 0, none⟩), .pointer (some ⟨w.heap.size + 1, 0, none⟩)]) (by simp) (by simp [go_sem]) ?_
      refine (catch_idle ⟨w.heap.size, 0, none⟩ ⟨w.heap.size + 1, 0, none⟩ _).mono ?_
      rintro e u' w'' ⟨rfl, rfl, rfl⟩
      refine ⟨_, read_res rfl rfl hm5, _, _, rfl, ?_, ?_, hm5.below⟩
      · exact Kd.S_lower (S_on (S_on (S_on (Kd.S_below HST.out HB4.out) (by omega) _ _) (by omega) _ _) (by omega) _ _) (by omega)
      · exact Kd.R_lower (R_on (R_on (R_on (Kd.R_below HRF.out HB4.out) (by omega) _ _) (by omega) _ _) (by omega) _ _) (by omega)
    · rw [if_neg hz] at hh
      obtain ⟨rfl, rfl, rfl⟩ : r1 = [] ∧ r2 = [] ∧ r3 = e0 := by simp at hh; exact ⟨hh.1, hh.2.1, hh.2.2.symm⟩
      clear hh
      have n0 : (r3 == 0) = false := beq_eq_false_iff_ne.2 hz
      have n1 : (r3 != 0) = true := bne_iff_ne.2 hz
      clear hz
      go_wp2_with (go_at_call 12; refine HCK.out.mono ?_; rintro e w4 ⟨rfl, hb4⟩; clear q2 q3; have hm4 := HM3.out.later hb4; have m0 := hm4.c0; have m1 := hm4.c1; have m2 := hm4.c2; have f0 := blk_frozen hm4.b0 0; have f1 := blk_frozen hm4.b0 1; have f2 := blk_frozen hm4.b1 0; have HM4 := Lib.hid hm4; clear hm4 hb4)
      have hm5 := (HM4.out.setP (.slice none 0 0) (.slice none 0 0)).setE (.int .i64 r3)
      refine leaves_cons (f := 16) (args := #[.pointer (some ⟨w.heap.size, 0, none⟩), .pointer (some ⟨w.heap.size + 1, 0, none⟩)]) (by simp) (by simp [go_sem]) ?_
      refine (catch_idle ⟨w.heap.size, 0, none⟩ ⟨w.heap.size + 1, 0, none⟩ _).mono ?_
      rintro e u' w'' ⟨rfl, rfl, rfl⟩
      exact ⟨_, read_res rfl rfl hm5, _, _, rfl, Kd.S_nil _ _ _ _ _, Kd.R_nil _ _ _ _ _, hm5.below⟩
theorem read_Read.calls (a0 : ByteArray) (r1 : List S41) (r2 : List S31) (r3 : Int) (w : World) (h : read_Read.f a0 = some (r1, r2, r3)) (hsh : ShTab w) :
    Calls Tryd.prog 7 #[.string a0] w fun e w' => ∃ v0 v1 : Value, e = .returned (.tuple #[.agg #[v0, v1], .int .i64 r3]) ∧ Kd.S k41 41 w' w.heap.size (fun _ => True) v0 r1 ∧ Kd.R k31 31 w' w.heap.size (fun _ => True) v1 r2 ∧ Below w.heap.size w w' := by
  unfold read_Read.f at h
  by_cases n2 : (linesP a0).2 = 0
  · rw [if_pos n2] at h
    exact read_some a0 w r1 r2 r3 hsh n2 h
  · rw [if_neg n2] at h
    have e := Option.some.inj h
    obtain ⟨rfl, rfl, rfl⟩ : r1 = [] ∧ r2 = [] ∧ r3 = (linesP a0).2 := by simp at e; exact ⟨e.1, e.2.1, e.2.2.symm⟩
    exact read_none a0 w n2
end Go.Proofs.YtlghkomipboflaaDoor.X
end
section
namespace Go.Proofs.YtlghkomipboflaaDoor.X
open Go.RowKit Go.Proofs.YtlghkomipboflaaDoorW.PrintWords Go.Proofs.YtlghkomipboflaaDoorW.PrintLast Go.Proofs.YtlghkomipboflaaDoorW.PrintMore
attribute [local go_sem] max2_int min2_int max_two min_two max_three min_three max_four min_four
set_option linter.unusedVariables false
set_option linter.unusedSimpArgs false
def fescuelaw07_text.f (a0 : ByteArray) : Option (ByteArray) := if 62 + a0.size ≤ 9223372036854775807 then (some ((⟨#[116, 121, 112, 101, 32, 105, 110, 116, 10, 116, 121, 112, 101, 32, 102, 110, 32, 116, 48, 10, 102, 117, 110, 99, 32, 116, 49, 10, 98, 108, 111, 99, 107, 10, 114, 48, 32, 116, 48, 32, 61, 32, 105, 110, 116, 32, 53, 10, 106, 117, 109, 112, 32, 98, 49, 10, 98, 108, 111, 99, 107, 10]⟩ : ByteArray) ++ a0)) else (none)
set_option maxHeartbeats 8000000 in
set_option maxRecDepth 100000 in
theorem fescuelaw07_text.calls (a0 : ByteArray) (r : ByteArray) (w : World) (h : fescuelaw07_text.f a0 = some r) :
    Calls Tryd.prog 9 #[.string a0] w fun e w' => e = .returned (.string r) ∧ Drawn0 w w' := by
  have H : (if 62 + a0.size ≤ 9223372036854775807 then (some ((⟨#[116, 121, 112, 101, 32, 105, 110, 116, 10, 116, 121, 112, 101, 32, 102, 110, 32, 116, 48, 10, 102, 117, 110, 99, 32, 116, 49, 10, 98, 108, 111, 99, 107, 10, 114, 48, 32, 116, 48, 32, 61, 32, 105, 110, 116, 32, 53, 10, 106, 117, 109, 112, 32, 98, 49, 10, 98, 108, 111, 99, 107, 10]⟩ : ByteArray) ++ a0)) else (none)) = some r := h
  clear h
  by_cases c2 : 62 + a0.size ≤ 9223372036854775807
  · rw [if_pos c2] at H
    have c2b0 := eq_true c2
    have c2b1 : decide (62 + a0.size ≤ 9223372036854775807) = true := decide_eq_true c2
    try have c2b2 : (9223372036854775807 < 62 + a0.size) = False := eq_false (Nat.not_lt.2 c2)
    obtain rfl := Option.some.inj H
    go_enter Tryd.func9, Tryd.ntmps9
    go_wp2
    go_ret
    exact ⟨by first | rfl | (simp; done) | (simp [*]; done), by repeat (first | exact Drawn0.refl _ | apply Drawn0.step)⟩
  · rw [if_neg c2] at H
    exact absurd H (by simp)
def fescuelaw07_odd.f (a0 : ByteArray) (a1 : Int) : Option (Bool) := (read_Read.f a0).bind fun bt118 => (if bt118.2.2 = a1 then (if (bt118.2.1.length : Int) = 0 then (some ((bt118.1.length : Int) == 0)) else (some false)) else (some false))
set_option maxHeartbeats 8000000 in
set_option maxRecDepth 100000 in
theorem fescuelaw07_odd.calls (a0 : ByteArray) (a1 : Int) (r : Bool) (w : World) (h : fescuelaw07_odd.f a0 a1 = some r) (HTS0 : ShTab w) :
    Calls Tryd.prog 8 #[.string a0, .int .i64 a1] w fun e w' => e = .returned (.bool r) ∧ Below w.heap.size w w' := by
  have HTS := Aside0.mk HTS0
  clear HTS0
  have hu25 := Tryd.underlying25
  have HB := Aside0.mk (Below.refl w.heap.size w)
  have H : ((read_Read.f a0).bind fun bt118 => (if bt118.2.2 = a1 then (if (bt118.2.1.length : Int) = 0 then (some ((bt118.1.length : Int) == 0)) else (some false)) else (some false))) = some r := h
  clear h
  replace H := Option.bind_eq_some_iff.mp H
  obtain ⟨⟨t118, t121, t124⟩, A30, H⟩ := H
  replace H : (if t124 = a1 then (if (t121.length : Int) = 0 then (some ((t118.length : Int) == 0)) else (some false)) else (some false)) = some r := H
  have A3 := Aside0.mk A30
  clear A30
  by_cases c4 : t124 = a1
  · rw [if_pos c4] at H
    have c4b0 : (t124 == a1) = true := beq_iff_eq.mpr c4
    have c4b1 : (t124 != a1) = false := bne_eq_false_iff_eq.mpr c4
    clear c4
    by_cases c5 : (t121.length : Int) = 0
    · rw [if_pos c5] at H
      have c5b0 : ((t121.length : Int) == 0) = true := beq_iff_eq.mpr c5
      have c5b1 : ((t121.length : Int) != 0) = false := bne_eq_false_iff_eq.mpr c5
      clear c5
      obtain rfl := Option.some.inj H
      go_enter Tryd.func8, Tryd.ntmps8
      go_wp2_with (first | ((with_reducible refine gate_callee (f := 7) rfl ?_); refine goesL_ (some 9) rfl rfl Tryd.func7 (by kernel_rfl) rfl #[.string a0] rfl (by (try simp only [List.map_toArray, List.map_cons, List.map_nil]); first | done | rfl | (simp only [List.length_drop, List.length_take]; rfl)) ?_; (with_reducible refine (read_Read.calls a0 t118 t121 t124 _ A3.out (ShTab.below HTS.out (by repeat (first | (with_reducible first | exact HB.out | apply below_alloc | apply pw_below_drewN | apply below_drew1) | exact HB.out)))).mono ?_); rintro e w6 ⟨v119, v122, rfl, ho0, ho1, hb⟩; refine ⟨_, rfl, ?_⟩; have n0_ := Aside0.mk (Kd.S_lower ho0 (below_size (by repeat (first | (with_reducible first | exact HB.out | apply below_alloc | apply pw_below_drewN | apply below_drew1) | exact HB.out)))); have n1_ := Aside0.mk (Kd.R_lower ho1 (below_size (by repeat (first | (with_reducible first | exact HB.out | apply below_alloc | apply pw_below_drewN | apply below_drew1) | exact HB.out)))); have n2_ := Aside0.mk (below_step (by repeat (first | (with_reducible first | exact HB.out | apply below_alloc | apply pw_below_drewN | apply below_drew1) | exact HB.out)) hb); clear HB; have HO120 := n0_; have HO123 := n1_; have HB := n2_; clear n0_ n1_ n2_; (try clear hb); (try clear hb2); (try clear hk); (try clear hi); (try clear ho0); (try clear ho1)) | ((with_reducible refine gate_dst (N := 5) rfl ?_); (try (refine gate_guard (by rfl) ?_; dsimp only)); refine box_event ?hg (N := 5) ?hd (cs := #[.slice none 0 0, .slice none 0 0]) (t := 25) ?hr ?_; (case hd => rfl); (case hg => rfl); (case hr => first | (go_simp; done) | (go_simp; rfl)); intro gb125 hg w7 hbox hb; have n0_ := Aside0.mk (Kd.S_below (by (with_reducible repeat (first | apply Kd.S_alloc | apply Kd.S_drewN | apply Kd.S_drew)); exact HO120.out) hb); have n1_ := Aside0.mk (Kd.R_below (by (with_reducible repeat (first | apply Kd.R_alloc | apply Kd.R_drewN | apply Kd.R_drew)); exact HO123.out) hb); have n2_ := Aside0.mk (below_step (by repeat (first | (with_reducible first | exact HB.out | apply below_alloc | apply pw_below_drewN | apply below_drew1) | exact HB.out)) hb); have n3_ := Aside0.mk (hbox); have n4_ := Aside0.mk ((by rw [hg]; exact (below_size (by repeat (first | (with_reducible first | exact HB.out | apply below_alloc | apply pw_below_drewN | apply below_drew1) | exact HB.out))) : w.heap.size ≤ gb125)); have n5_ := Aside0.mk ((by rw [hg]; exact (below_size (by repeat (first | (with_reducible first | exact HB.out | apply below_alloc | apply pw_below_drewN | apply below_drew1) | exact HB.out))) : w.heap.size ≤ gb125)); clear HO120; clear HO123; clear HB; have HO120 := n0_; have HO123 := n1_; have HB := n2_; have BK125 := n3_; have GW125 := n4_; have GE125 := n5_; clear n0_ n1_ n2_ n3_ n4_ n5_; clear hb hbox hg; obtain ⟨Ao8, co8, eo8⟩ := Kd.S_slice HO120.out; subst eo8; have hcz9_0 : w7.cell? ⟨gb125, 0, none⟩ = some (.slice none 0 0) := (blk_cell BK125.out 0).trans rfl; have hcz9_1 : w7.cell? ⟨gb125, 1, none⟩ = some (.slice none 0 0) := (blk_cell BK125.out 1).trans rfl; have hfz9_0 := blk_frozen BK125.out 0; have hfz9_1 := blk_frozen BK125.out 1; obtain ⟨Ao10, co10, eo10⟩ := Kd.R_slice HO123.out; subst eo10))
      go_ret
      exact ⟨by first | rfl | (simp [errW_none, errW_some] <;> rfl) | (simp [*, errW_none, errW_some] <;> rfl), by repeat (first | (with_reducible first | exact HB.out | apply below_alloc | apply pw_below_drewN | apply below_drew1 | refine below_set ?_ GE125.out) | exact HB.out)⟩
    · rw [if_neg c5] at H
      have c5b0 : ((t121.length : Int) == 0) = false := beq_eq_false_iff_ne.mpr c5
      have c5b1 : ((t121.length : Int) != 0) = true := bne_iff_ne.mpr c5
      have c5b2 : ¬ (t121 = []) := fun h_ => c5 (by rw [h_]; rfl)
      obtain rfl := Option.some.inj H
      go_enter Tryd.func8, Tryd.ntmps8
      go_wp2_with (first | ((with_reducible refine gate_callee (f := 7) rfl ?_); refine goesL_ (some 9) rfl rfl Tryd.func7 (by kernel_rfl) rfl #[.string a0] rfl (by (try simp only [List.map_toArray, List.map_cons, List.map_nil]); first | done | rfl | (simp only [List.length_drop, List.length_take]; rfl)) ?_; (with_reducible refine (read_Read.calls a0 t118 t121 t124 _ A3.out (ShTab.below HTS.out (by repeat (first | (with_reducible first | exact HB.out | apply below_alloc | apply pw_below_drewN | apply below_drew1) | exact HB.out)))).mono ?_); rintro e w11 ⟨v119, v122, rfl, ho0, ho1, hb⟩; refine ⟨_, rfl, ?_⟩; have n0_ := Aside0.mk (Kd.S_lower ho0 (below_size (by repeat (first | (with_reducible first | exact HB.out | apply below_alloc | apply pw_below_drewN | apply below_drew1) | exact HB.out)))); have n1_ := Aside0.mk (Kd.R_lower ho1 (below_size (by repeat (first | (with_reducible first | exact HB.out | apply below_alloc | apply pw_below_drewN | apply below_drew1) | exact HB.out)))); have n2_ := Aside0.mk (below_step (by repeat (first | (with_reducible first | exact HB.out | apply below_alloc | apply pw_below_drewN | apply below_drew1) | exact HB.out)) hb); clear HB; have HO120 := n0_; have HO123 := n1_; have HB := n2_; clear n0_ n1_ n2_; (try clear hb); (try clear hb2); (try clear hk); (try clear hi); (try clear ho0); (try clear ho1)) | ((with_reducible refine gate_dst (N := 5) rfl ?_); (try (refine gate_guard (by rfl) ?_; dsimp only)); refine box_event ?hg (N := 5) ?hd (cs := #[.slice none 0 0, .slice none 0 0]) (t := 25) ?hr ?_; (case hd => rfl); (case hg => rfl); (case hr => first | (go_simp; done) | (go_simp; rfl)); intro gb125 hg w12 hbox hb; have n0_ := Aside0.mk (Kd.S_below (by (with_reducible repeat (first | apply Kd.S_alloc | apply Kd.S_drewN | apply Kd.S_drew)); exact HO120.out) hb); have n1_ := Aside0.mk (Kd.R_below (by (with_reducible repeat (first | apply Kd.R_alloc | apply Kd.R_drewN | apply Kd.R_drew)); exact HO123.out) hb); have n2_ := Aside0.mk (below_step (by repeat (first | (with_reducible first | exact HB.out | apply below_alloc | apply pw_below_drewN | apply below_drew1) | exact HB.out)) hb); have n3_ := Aside0.mk (hbox); have n4_ := Aside0.mk ((by rw [hg]; exact (below_size (by repeat (first | (with_reducible first | exact HB.out | apply below_alloc | apply pw_below_drewN | apply below_drew1) | exact HB.out))) : w.heap.size ≤ gb125)); have n5_ := Aside0.mk ((by rw [hg]; exact (below_size (by repeat (first | (with_reducible first | exact HB.out | apply below_alloc | apply pw_below_drewN | apply below_drew1) | exact HB.out))) : w.heap.size ≤ gb125)); clear HO120; clear HO123; clear HB; have HO120 := n0_; have HO123 := n1_; have HB := n2_; have BK125 := n3_; have GW125 := n4_; have GE125 := n5_; clear n0_ n1_ n2_ n3_ n4_ n5_; clear hb hbox hg; obtain ⟨Ao13, co13, eo13⟩ := Kd.S_slice HO120.out; subst eo13; have hcz14_0 : w12.cell? ⟨gb125, 0, none⟩ = some (.slice none 0 0) := (blk_cell BK125.out 0).trans rfl; have hcz14_1 : w12.cell? ⟨gb125, 1, none⟩ = some (.slice none 0 0) := (blk_cell BK125.out 1).trans rfl; have hfz14_0 := blk_frozen BK125.out 0; have hfz14_1 := blk_frozen BK125.out 1; obtain ⟨Ao15, co15, eo15⟩ := Kd.R_slice HO123.out; subst eo15))
      go_ret
      exact ⟨by first | rfl | (simp [errW_none, errW_some] <;> rfl) | (simp [*, errW_none, errW_some] <;> rfl), by repeat (first | (with_reducible first | exact HB.out | apply below_alloc | apply pw_below_drewN | apply below_drew1 | refine below_set ?_ GE125.out) | exact HB.out)⟩
  · rw [if_neg c4] at H
    have c4b0 : (t124 == a1) = false := beq_eq_false_iff_ne.mpr c4
    have c4b1 : (t124 != a1) = true := bne_iff_ne.mpr c4
    obtain rfl := Option.some.inj H
    go_enter Tryd.func8, Tryd.ntmps8
    go_wp2_with (first | ((with_reducible refine gate_callee (f := 7) rfl ?_); refine goesL_ (some 9) rfl rfl Tryd.func7 (by kernel_rfl) rfl #[.string a0] rfl (by (try simp only [List.map_toArray, List.map_cons, List.map_nil]); first | done | rfl | (simp only [List.length_drop, List.length_take]; rfl)) ?_; (with_reducible refine (read_Read.calls a0 t118 t121 t124 _ A3.out (ShTab.below HTS.out (by repeat (first | (with_reducible first | exact HB.out | apply below_alloc | apply pw_below_drewN | apply below_drew1) | exact HB.out)))).mono ?_); rintro e w16 ⟨v119, v122, rfl, ho0, ho1, hb⟩; refine ⟨_, rfl, ?_⟩; have n0_ := Aside0.mk (Kd.S_lower ho0 (below_size (by repeat (first | (with_reducible first | exact HB.out | apply below_alloc | apply pw_below_drewN | apply below_drew1) | exact HB.out)))); have n1_ := Aside0.mk (Kd.R_lower ho1 (below_size (by repeat (first | (with_reducible first | exact HB.out | apply below_alloc | apply pw_below_drewN | apply below_drew1) | exact HB.out)))); have n2_ := Aside0.mk (below_step (by repeat (first | (with_reducible first | exact HB.out | apply below_alloc | apply pw_below_drewN | apply below_drew1) | exact HB.out)) hb); clear HB; have HO120 := n0_; have HO123 := n1_; have HB := n2_; clear n0_ n1_ n2_; (try clear hb); (try clear hb2); (try clear hk); (try clear hi); (try clear ho0); (try clear ho1)) | ((with_reducible refine gate_dst (N := 5) rfl ?_); (try (refine gate_guard (by rfl) ?_; dsimp only)); refine box_event ?hg (N := 5) ?hd (cs := #[.slice none 0 0, .slice none 0 0]) (t := 25) ?hr ?_; (case hd => rfl); (case hg => rfl); (case hr => first | (go_simp; done) | (go_simp; rfl)); intro gb125 hg w17 hbox hb; have n0_ := Aside0.mk (Kd.S_below (by (with_reducible repeat (first | apply Kd.S_alloc | apply Kd.S_drewN | apply Kd.S_drew)); exact HO120.out) hb); have n1_ := Aside0.mk (Kd.R_below (by (with_reducible repeat (first | apply Kd.R_alloc | apply Kd.R_drewN | apply Kd.R_drew)); exact HO123.out) hb); have n2_ := Aside0.mk (below_step (by repeat (first | (with_reducible first | exact HB.out | apply below_alloc | apply pw_below_drewN | apply below_drew1) | exact HB.out)) hb); have n3_ := Aside0.mk (hbox); have n4_ := Aside0.mk ((by rw [hg]; exact (below_size (by repeat (first | (with_reducible first | exact HB.out | apply below_alloc | apply pw_below_drewN | apply below_drew1) | exact HB.out))) : w.heap.size ≤ gb125)); have n5_ := Aside0.mk ((by rw [hg]; exact (below_size (by repeat (first | (with_reducible first | exact HB.out | apply below_alloc | apply pw_below_drewN | apply below_drew1) | exact HB.out))) : w.heap.size ≤ gb125)); clear HO120; clear HO123; clear HB; have HO120 := n0_; have HO123 := n1_; have HB := n2_; have BK125 := n3_; have GW125 := n4_; have GE125 := n5_; clear n0_ n1_ n2_ n3_ n4_ n5_; clear hb hbox hg; obtain ⟨Ao18, co18, eo18⟩ := Kd.S_slice HO120.out; subst eo18; have hcz19_0 : w17.cell? ⟨gb125, 0, none⟩ = some (.slice none 0 0) := (blk_cell BK125.out 0).trans rfl; have hcz19_1 : w17.cell? ⟨gb125, 1, none⟩ = some (.slice none 0 0) := (blk_cell BK125.out 1).trans rfl; have hfz19_0 := blk_frozen BK125.out 0; have hfz19_1 := blk_frozen BK125.out 1; obtain ⟨Ao20, co20, eo20⟩ := Kd.R_slice HO123.out; subst eo20))
    go_ret
    exact ⟨by first | rfl | (simp [errW_none, errW_some] <;> rfl) | (simp [*, errW_none, errW_some] <;> rfl), by repeat (first | (with_reducible first | exact HB.out | apply below_alloc | apply pw_below_drewN | apply below_drew1 | refine below_set ?_ GE125.out) | exact HB.out)⟩
end Go.Proofs.YtlghkomipboflaaDoor.X
end

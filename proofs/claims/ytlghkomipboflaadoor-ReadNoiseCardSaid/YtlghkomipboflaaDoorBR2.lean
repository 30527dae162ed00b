/- Texts of this claim, merged (part 2 of 13): Math, Mem, LexF, Scope, LexT, RdP, NumW, Xx12, SmallL, Small, Aid, Split, Lines, MarkP, RdM, RdK, RdE, RdN, ShOf. -/
import Derived.WalkKit
import Derived.Below
import Derived.ScopeJumps
import Derived.Test.YtlghkomipboflaaDoorProg
import Derived.WalkSpells
import Derived.WalkLawsBesides
import Derived.Laws.RangeAny
import Derived.Lib.Hide
import Derived.PlainAid
import Derived.Deep.QuietTactic
import Derived.BigQuiet
import Derived.Deep.RegionHeld3
import Derived.Deep.AppendLies
import Derived.Deep.RegionLaw
import Derived.BigRegion
import Derived.Lib.IndexBytes
import Derived.Defers
import Derived.Recover
import Derived.Deep.DeepCutAuto
import Derived.Deep.CutRange
import Derived.Deep.LoopGhost
import Derived.OwnWalk
import Derived.Lib.LaidTab
import Derived.Laws.Rows
import Derived.Test.YtlghkomipboflaaDoorBR1
set_option linter.unusedVariables false
set_option linter.unusedSimpArgs false
section
namespace Go.Proofs.YtlghkomipboflaaDoor
open Go.RowKit
def isDig (c : UInt8) : Bool := decide (48 ≤ c.toNat) && decide (c.toNat ≤ 57)
def decVal (l : List UInt8) : Nat := l.foldl (fun a c => 10 * a + (c.toNat - 48)) 0
theorem decVal_snoc (l : List UInt8) (c : UInt8) : decVal (l ++ [c]) = 10 * decVal l + (c.toNat - 48) := by simp [decVal]
theorem take_snoc (s : ByteArray) (k : Nat) (h : k < s.size) : s.data.toList.take (k + 1) = s.data.toList.take k ++ [s[k]] := by
  rw [List.take_succ_eq_append_getElem (by simpa using h)]; rfl
theorem decVal_lt (l : List UInt8) (h : l.all isDig = true) : decVal l < 10 ^ l.length := by
  have key : ∀ n, n ≤ l.length → decVal (l.take n) < 10 ^ n := by
    intro n
    induction n with
    | zero => intro _; simp [decVal]
    | succ n ih =>
      intro hn
      have h1 := ih (by omega)
      rw [List.take_succ_eq_append_getElem (by omega), decVal_snoc]
      have h2 : isDig l[n] = true := List.all_eq_true.1 h _ (List.getElem_mem _)
      simp [isDig] at h2
      rw [Nat.pow_succ]
      omega
  have := key l.length (Nat.le_refl _)
  rwa [List.take_length] at this
def readL (l : List UInt8) : Int × Int :=
  let minus := l.head? == some 45
  let r := if minus then l.tail else l
  if r = [] ∨ 19 < r.length ∨ (r.head? = some 48 ∧ l ≠ [48]) then (0, 10)
  else if r.all isDig = false then (0, 10)
  else if (if minus then 9223372036854775808 else 9223372036854775807) < decVal r then (0, 10)
  else (if minus then -(decVal r : Int) else (decVal r : Int), 0)
end Go.Proofs.YtlghkomipboflaaDoor
end
section
namespace Go.Proofs.YtlghkomipboflaaDoor
open Go.RowKit
theorem cell_set (w : World) (p q : Addr) (v : Value) : (w.setCell p v).cell? q = if p = q then (w.cell? q).map (fun _ => v) else w.cell? q := by
  by_cases h : p = q
  · subst h
    rw [if_pos rfl]
    cases hc : w.cell? p with
    | some u => rw [World.cell?_setCell_same w p v hc]; rfl
    | none =>
      simp only [World.cell?, World.setCell, Array.getElem?_modify] at hc ⊢
      simp only [if_true]
      cases hb : w.heap[p.block]? with
      | none => simp
      | some o =>
        rw [hb] at hc
        cases o <;> simp_all
  · rw [if_neg h, World.cell?_setCell_other w p q v h]
theorem wp_at {P : Program} {Q : Exit → Act → World → Prop} {a : Act} {w : World} {c : Code} (R : World → Prop) (h : R w) (k : ∀ w, R w → c.wp P Q a w) : c.wp P Q a w := k w h
end Go.Proofs.YtlghkomipboflaaDoor
end
section
namespace Go.Proofs.YtlghkomipboflaaDoor
set_option linter.unusedVariables false
set_option linter.unusedSimpArgs false
def kindOf (c : Nat) : Int := if c = 32 ∨ c = 9 ∨ c = 13 then 1 else if c = 10 then 2 else if c = 35 then 3 else 0
def kb (c : UInt8) : Int := kindOf c.toNat
theorem kb_cases (c : UInt8) : kb c = 1 ∨ kb c = 2 ∨ kb c = 3 ∨ kb c = 0 := by
  unfold kb kindOf
  split
  · exact .inl rfl
  · split
    · exact .inr (.inl rfl)
    · split
      · exact .inr (.inr (.inl rfl))
      · exact .inr (.inr (.inr rfl))
def endL (ls : List (List ByteArray)) (ws : List ByteArray) : List (List ByteArray) := if ws = [] then ls else ls ++ [ws]
def isPlain (c : UInt8) : Bool := kb c == 0
def noFeed (c : UInt8) : Bool := kb c != 2
theorem dropWhile_le {α : Type} (p : α → Bool) (l : List α) : (l.dropWhile p).length ≤ l.length := by
  induction l with
  | nil => simp
  | cons x t ih => rw [List.dropWhile_cons]; split <;> simp; omega
def lexF (l : List UInt8) (ws : List ByteArray) (ls : List (List ByteArray)) : Option (List (List ByteArray)) :=
  match l with
  | [] => if ws.length ≤ 64 then some (endL ls ws) else none
  | c :: t =>
    if kb c = 1 then lexF t ws ls
    else if kb c = 2 then (if ws.length ≤ 64 then lexF t [] (endL ls ws) else none)
    else if kb c = 3 then lexF (t.dropWhile noFeed) ws ls
    else lexF (t.dropWhile isPlain) (ws ++ [⟨(c :: t.takeWhile isPlain).toArray⟩]) ls
termination_by l.length
decreasing_by
  · simp
  · simp
  · have := dropWhile_le noFeed t; simp; omega
  · have := dropWhile_le isPlain t; simp; omega
theorem lexF_nil (ws : List ByteArray) (ls : List (List ByteArray)) : lexF [] ws ls = if ws.length ≤ 64 then some (endL ls ws) else none := by rw [lexF]
theorem lexF_blank (c : UInt8) (t : List UInt8) (ws ls) (h : kb c = 1) : lexF (c :: t) ws ls = lexF t ws ls := by rw [lexF, if_pos h]
theorem lexF_feed (c : UInt8) (t : List UInt8) (ws ls) (h : kb c = 2) : lexF (c :: t) ws ls = if ws.length ≤ 64 then lexF t [] (endL ls ws) else none := by
  rw [lexF, if_neg (by rw [h]; decide), if_pos h]
theorem lexF_hash (c : UInt8) (t : List UInt8) (ws ls) (h : kb c = 3) : lexF (c :: t) ws ls = lexF ((c :: t).dropWhile noFeed) ws ls := by
  rw [lexF, if_neg (by rw [h]; decide), if_neg (by rw [h]; decide), if_pos h, List.dropWhile_cons, if_pos (by unfold noFeed; rw [h]; decide)]
theorem lexF_word (c : UInt8) (t : List UInt8) (ws ls) (h : kb c = 0) : lexF (c :: t) ws ls = lexF ((c :: t).dropWhile isPlain) (ws ++ [⟨((c :: t).takeWhile isPlain).toArray⟩]) ls := by
  rw [lexF, if_neg (by rw [h]; decide), if_neg (by rw [h]; decide), if_neg (by rw [h]; decide)]
  rw [List.dropWhile_cons, List.takeWhile_cons, if_pos (by unfold isPlain; rw [h]; decide), if_pos (by unfold isPlain; rw [h]; decide)]
def linesP (s : ByteArray) : List (List ByteArray) × Int :=
  if 16384 < s.size then ([], 4) else match lexF s.data.toList [] [] with
    | some l => (l, 0)
    | none => ([], 4)
theorem drop_cons (s : ByteArray) (i : Nat) (h : i < s.size) : s.data.toList.drop i = s[i] :: s.data.toList.drop (i + 1) := by
  rw [List.drop_eq_getElem_cons (by simpa using h)]
  rfl
theorem word_done (s : ByteArray) (from_ pos : Nat) (h0 : from_ ≤ pos) (h1 : pos ≤ s.size) (hp : ∀ j, from_ ≤ j → ∀ h : j < s.size, j < pos → kb s[j] = 0) (he : ∀ h : pos < s.size, kb s[pos] ≠ 0) :
    (s.data.toList.drop from_).dropWhile isPlain = s.data.toList.drop pos ∧ (⟨((s.data.toList.drop from_).takeWhile isPlain).toArray⟩ : ByteArray) = s.extract from_ pos := by
  have key : ∀ d i, pos - i = d → from_ ≤ i → i ≤ pos → (s.data.toList.drop i).dropWhile isPlain = s.data.toList.drop pos ∧ (s.data.toList.drop i).takeWhile isPlain = (s.data.toList.drop i).take (pos - i) := by
    intro d
    induction d with
    | zero =>
      intro i hd hi hip
      have : i = pos := by omega
      subst this
      rcases Nat.lt_or_ge i s.size with h | h
      · rw [drop_cons s i h, List.dropWhile_cons, List.takeWhile_cons]
        have : isPlain s[i] = false := by unfold isPlain; rw [beq_eq_false_iff_ne]; exact he h
        rw [this]
        simp
      · have : s.data.toList.drop i = [] := List.drop_eq_nil_of_le (by simp; omega)
        rw [this]; simp
    | succ d ih =>
      intro i hd hi hip
      have hlt : i < s.size := by omega
      obtain ⟨h2, h3⟩ := ih (i + 1) (by omega) (by omega) (by omega)
      have hpl : isPlain s[i] = true := by unfold isPlain; rw [hp i hi hlt (by omega)]; rfl
      have e : pos - i = (pos - (i + 1)) + 1 := by omega
      rw [drop_cons s i hlt, List.dropWhile_cons, List.takeWhile_cons, hpl, if_pos rfl, if_pos rfl, h2, h3, e, List.take_succ_cons]
      exact ⟨rfl, rfl⟩
  obtain ⟨h2, h3⟩ := key _ from_ rfl (Nat.le_refl _) h0
  refine ⟨h2, ?_⟩
  rw [h3]
  have e : (s.extract from_ pos).data.toList = (s.data.toList.drop from_).take (pos - from_) := by
    simp
  cases hx : s.extract from_ pos with
  | mk d =>
    rw [hx] at e
    simp only at e
    rw [← e]
end Go.Proofs.YtlghkomipboflaaDoor
end
section
namespace Go.Proofs.YtlghkomipboflaaDoor
def jumps (J : Nat → Act → World → Prop) (Q : Exit → Act → World → Prop) : Exit → Act → World → Prop
  | .goto l, a, w => J l a w
  | e, a, w => Q e a w
section
variable {P : Program} {a : Act} {w : World} {Q : Exit → Act → World → Prop}
@[go_sem] theorem jumps_normal {J : Nat → Act → World → Prop} : jumps J Q .normal a w = Q .normal a w := rfl
@[go_sem] theorem jumps_exit {J : Nat → Act → World → Prop} (id : Nat) : jumps J Q (.exit id) a w = Q (.exit id) a w := rfl
@[go_sem] theorem jumps_ret {J : Nat → Act → World → Prop} : jumps J Q .ret a w = Q .ret a w := rfl
theorem wp_scope_many {c : Code} (J : Nat → Act → World → Prop) (μ : Nat → Act → World → Nat)
    (first : c.wp P (jumps J Q) a w)
    (pass : ∀ l a w, J l a w → ∃ rest, findLabel c l = some rest ∧ rest.wp P (jumps (fun l' a' w' => J l' a' w' ∧ μ l' a' w' < μ l a w) Q) a w) : (Code.scope c).wp P Q a w := by
  intro b k cs
  have key : ∀ n l a w, μ l a w = n → J l a w → ∀ rest, findLabel c l = some rest → ∃ e a' w', Q e a' w' ∧ Arrives P (lone (b.at a (.code rest :: .inScope c :: k)) cs w) b k cs e a' w' := by
    intro n
    induction n using Nat.strongRecOn with
    | _ n ih =>
      intro l a w hn hJ rest hf
      obtain ⟨rest', hf', hp⟩ := pass l a w hJ
      rw [hf] at hf'
      injection hf' with hf'
      subst hf'
      obtain ⟨e, a₁, w₁, hq, harr⟩ := hp b (.inScope c :: k) cs
      cases e with
      | normal => exact ⟨.normal, a₁, w₁, hq, Steps.trans harr (.one step_inScope)⟩
      | exit id => exact ⟨.exit id, a₁, w₁, hq, fun k' hk => harr k' (by simp [exitTo, hk])⟩
      | goto l' =>
        obtain ⟨hJ', hlt⟩ := hq
        obtain ⟨rest₂, hf₂, _⟩ := pass l' a₁ w₁ hJ'
        obtain ⟨e₂, a₂, w₂, hq₂, harr₂⟩ := ih _ (by omega) l' a₁ w₁ rfl hJ' rest₂ hf₂
        exact ⟨e₂, a₂, w₂, hq₂, .of_steps (harr _ (by simp [gotoIn, hf₂])) harr₂⟩
      | ret => exact ⟨_, a₁, w₁, hq, harr⟩
      | panic ch => exact ⟨_, a₁, w₁, hq, harr⟩
      | outgrown => exact ⟨_, a₁, w₁, hq, harr⟩
  obtain ⟨e, a₁, w₁, hq, harr⟩ := first b (.inScope c :: k) cs
  cases e with
  | normal => exact ⟨.normal, a₁, w₁, hq, .head step_scope (Steps.trans harr (.one step_inScope))⟩
  | exit id => exact ⟨.exit id, a₁, w₁, hq, fun k' hk => .head step_scope (harr k' (by simp [exitTo, hk]))⟩
  | goto l' =>
    obtain ⟨rest₂, hf₂, _⟩ := pass l' a₁ w₁ hq
    obtain ⟨e₂, a₂, w₂, hq₂, harr₂⟩ := key _ l' a₁ w₁ rfl hq rest₂ hf₂
    exact ⟨e₂, a₂, w₂, hq₂, .of_steps (.head step_scope (harr _ (by simp [gotoIn, hf₂]))) harr₂⟩
  | ret => exact ⟨_, a₁, w₁, hq, .of_steps (.one step_scope) harr⟩
  | panic ch => exact ⟨_, a₁, w₁, hq, .of_steps (.one step_scope) harr⟩
  | outgrown => exact ⟨_, a₁, w₁, hq, .of_steps (.one step_scope) harr⟩
end
end Go.Proofs.YtlghkomipboflaaDoor
end
section
namespace Go.Proofs.YtlghkomipboflaaDoor
open Go.RowKit Go.Proofs.YtlghkomipboflaaDoorW.PrintWords Go.Proofs.YtlghkomipboflaaDoorW.PrintLast Go.Proofs.YtlghkomipboflaaDoorW.PrintMore
set_option linter.unusedVariables false
set_option linter.unusedSimpArgs false
def kindCells : List Value := (List.range 64).map fun i => .int .i64 (kindOf i)
def RD (g : Nat) (s : ByteArray) (at_ : Int) (vw vl : Value) (W : World) : Prop :=
  W.heap[g]? = some (.cells ([Value.string s, Value.int .i64 at_] ++ kindCells ++ [vw, vl]).toArray 69 (0, 0))
theorem kindCells_len : kindCells.length = 64 := by simp [kindCells]
theorem RD.c0 {g s at_ vw vl W} (h : RD g s at_ vw vl W) : W.cell? ⟨g, 0, none⟩ = some (.string s) := by
  unfold RD at h; simp [World.cell?, h]
theorem RD.c1 {g s at_ vw vl W} (h : RD g s at_ vw vl W) : W.cell? ⟨g, 1, none⟩ = some (.int .i64 at_) := by
  unfold RD at h; simp [World.cell?, h]
theorem RD.ck {g s at_ vw vl W} (h : RD g s at_ vw vl W) (i : Nat) (hi : i < 64) : W.cell? ⟨g, 2 + i, none⟩ = some (.int .i64 (kindOf i)) := by
  unfold RD at h
  simp only [World.cell?, h]
  simp only [Option.isSome_none, Bool.false_eq_true, if_false, List.getElem?_toArray]
  have hl := kindCells_len
  rw [List.getElem?_append_left (by simp; omega), List.getElem?_append_right (by simp)]
  simp [kindCells, hi]
theorem RD.c66 {g s at_ vw vl W} (h : RD g s at_ vw vl W) : W.cell? ⟨g, 66, none⟩ = some vw := by
  unfold RD at h
  simp only [World.cell?, h]
  simp only [Option.isSome_none, Bool.false_eq_true, if_false, List.getElem?_toArray]
  have hl := kindCells_len
  rw [List.getElem?_append_right (by simp; omega)]
  simp [hl]
theorem RD.c67 {g s at_ vw vl W} (h : RD g s at_ vw vl W) : W.cell? ⟨g, 67, none⟩ = some vl := by
  unfold RD at h
  simp only [World.cell?, h]
  simp only [Option.isSome_none, Bool.false_eq_true, if_false, List.getElem?_toArray]
  have hl := kindCells_len
  rw [List.getElem?_append_right (by simp; omega)]
  simp [hl]
theorem RD.fz {g s at_ vw vl W} (h : RD g s at_ vw vl W) (j : Nat) : W.frozen? ⟨g, j, none⟩ = false := by
  unfold RD at h
  simp [World.frozen?, h]
theorem RD.drew {g s at_ vw vl W} (h : RD g s at_ vw vl W) : RD g s at_ vw vl W.drew := h
theorem RD.drewN {g s at_ vw vl W} (h : RD g s at_ vw vl W) (n : Nat) : RD g s at_ vw vl (W.drewN n) := h
theorem heap_set {W : World} {g j : Nat} {cs : Array Value} {t : Nat} {fr : Nat × Nat} (h : W.heap[g]? = some (.cells cs t fr)) (v : Value) : (W.setCell ⟨g, j, none⟩ v).heap[g]? = some (.cells (cs.setIfInBounds j v) t fr) := by
  simp [World.setCell, Array.getElem?_modify, h]
theorem RD.set1 {g s at_ vw vl W} (h : RD g s at_ vw vl W) (n : Int) : RD g s n vw vl (W.setCell ⟨g, 1, none⟩ (.int .i64 n)) := by
  unfold RD at h ⊢
  rw [heap_set h]
  rfl
theorem RD.set66 {g s at_ vw vl W} (h : RD g s at_ vw vl W) (v : Value) : RD g s at_ v vl (W.setCell ⟨g, 66, none⟩ v) := by
  unfold RD at h ⊢
  rw [heap_set h]
  rfl
theorem RD.set67 {g s at_ vw vl W} (h : RD g s at_ vw vl W) (v : Value) : RD g s at_ vw v (W.setCell ⟨g, 67, none⟩ v) := by
  unfold RD at h ⊢
  rw [heap_set h]
  rfl
theorem RD.of_block {g s at_ vw vl W W1} (h : RD g s at_ vw vl W) (hb : W1.heap[g]? = W.heap[g]?) : RD g s at_ vw vl W1 := by
  unfold RD at h ⊢
  rw [hb, h]
set_option maxHeartbeats 800000 in
theorem kind_any (g : Nat) (s : ByteArray) (at_ : Nat) (vw vl : Value) (w : World) (h : RD g s at_ vw vl w) (hp : at_ < s.size) (hs : s.size ≤ 16384) :
    Calls Tryd.prog 39 #[.pointer (some ⟨g, 0, none⟩)] w fun e w' => e = .returned (.int .i64 (kindOf (s[at_]'hp).toNat)) ∧ ∃ n, w' = w.drewN n := by
  have c0 := h.c0
  have c1 := h.c1
  have hb : (s[at_]'hp).toNat < 256 := (s[at_]'hp).toNat_lt
  by_cases hk : (s[at_]'hp).toNat < 64
  · have ck := h.ck _ hk
    go_enter Tryd.func39, Tryd.ntmps39
    go_wp2
    go_quiet (fail)
    go_wp2
    go_ret
    exact ⟨rfl, _, rfl⟩
  · have hz : kindOf (s[at_]'hp).toNat = 0 := by unfold kindOf; rw [if_neg (by omega), if_neg (by omega), if_neg (by omega)]
    have HZ := Lib.hid hz
    clear hz
    go_enter Tryd.func39, Tryd.ntmps39
    go_wp2
    go_quiet (fail)
    go_wp2
    go_ret
    exact ⟨by rw [HZ.out]; rfl, _, rfl⟩
theorem Tryd.info9' : (Tryd.prog.info? 9).map (fun i => (i.zero, i.size, i.bytes)) = some (some (.string ⟨#[]⟩), 1, 16) := by kernel_rfl
theorem Tryd.info42' : (Tryd.prog.info? 51).map (fun i => (i.zero, i.size, i.bytes)) = some (some (.slice none 0 0), 1, 24) := by kernel_rfl
abbrev KW : Kd ByteArray := Kd.string
abbrev KL : Kd (List ByteArray) := Kd.slice 9 Kd.string
set_option maxHeartbeats 1600000 in
theorem end_some (g B : Nat) (s : ByteArray) (at_ : Int) (A : Option Addr) (c : Nat) (ws : List ByteArray) (vl : Value) (ls : List (List ByteArray)) (w : World) (h : RD g s at_ (.slice A ws.length c) vl w)
    (hg : B ≤ g) (hB : B ≤ w.heap.size) (hw : KW.R 9 w B (fun k => k ≠ g) (.slice A ws.length c) ws)
    (hl : Kd.S KL 51 w B (fun k => k ≠ g ∧ some k ≠ (Value.slice A ws.length c).ownBlock) vl ls) (hn : ls.length < 100000) (hws : 0 < ws.length) (hws2 : ws.length < 100000) :
    Calls Tryd.prog 38 #[.pointer (some ⟨g, 0, none⟩)] w fun e w' => ∃ vl', e = .returned (.bool (decide (ws.length ≤ 64))) ∧ RD g s at_ (.slice none 0 0) vl' w' ∧
      Kd.S KL 51 w' B (fun k => k ≠ g) vl' (ls ++ [ws]) ∧ Below B w w' := by
  have c66 := h.c66
  have c67 := h.c67
  have f66 := h.fz 66
  have f67 := h.fz 67
  have hgs : g < w.heap.size := World.block_lt_of_cell? w _ c66
  have hp : KL.M w.drew B (fun k => k ≠ g ∧ some k ≠ vl.ownBlock ∧ some k = (Value.slice A ws.length c).ownBlock) ws [.slice A ws.length c] := ⟨_, rfl, Kd.R_drew (Kd.R_of_own (Kd.own_of_R hw) (fun k hk => ⟨hw.1 k hk, fun e => ((Kd.S_R hl).1 k e.symm).2 hk.symm, hk.symm⟩))⟩
  have hO : Kd.S KL 51 w.drew B (fun k => k ≠ g ∧ ¬ (k ≠ g ∧ some k ≠ vl.ownBlock ∧ some k = (Value.slice A ws.length c).ownBlock)) vl ls := Kd.S_drew (Kd.S_mono hl (fun _ hk => ⟨hk.1, fun h => hk.2 h.2.2⟩))
  have hvg : vl.ownBlock ≠ some g := fun e => ((Kd.S_R hl).1 g e).1 rfl
  have H := Lib.hid h
  clear h hw hl
  go_enter Tryd.func38, Tryd.ntmps38
  go_wp2
  go_region_law (refine Kd.S_append_step KL (w0 := w) (W := w.drew) B (by rfl) (.tmp 14) (.tmp 19) 46 51 (.slice none 0 0) 24 (by rfl) Tryd.underlying46 Tryd.info42' rfl (by decide) (by decide) vl ls ws [.slice A ws.length c] (fun k => k ≠ g) (fun k => k ≠ g ∧ some k ≠ vl.ownBlock ∧ some k = (Value.slice A ws.length c).ownBlock) (by simp [Act.eval, Act.put]) (by simp [Act.eval, Act.put]) hp (fun _ hk => ⟨hk.1, hk.2.1⟩) (fun k hk => by have : w.drew.heap.size = w.heap.size := rfl; omega) hO (Below.refl _ _).drew hB (by omega) ?_; intro v1 w1 hR hb hgrow hat; obtain ⟨A1, c1, rfl⟩ := Kd.S_slice hR; have HR := Lib.hid hR; have HG := Lib.hid hgrow; have HAT := Lib.hid hat; have d66 : w1.cell? ⟨g, 66, none⟩ = some (.slice A ws.length c) := (hgrow.cell_far _ (by exact hgs) (fun e => hvg e.symm)).trans c66; have d67 : w1.cell? ⟨g, 67, none⟩ = some vl := (hgrow.cell_far _ (by exact hgs) (fun e => hvg e.symm)).trans c67; have e66 : w1.frozen? ⟨g, 66, none⟩ = false := (hgrow.frozen_far _ (by exact hgs) (fun e => hvg e.symm)).trans f66; have e67 : w1.frozen? ⟨g, 67, none⟩ = false := (hgrow.frozen_far _ (by exact hgs) (fun e => hvg e.symm)).trans f67; clear hR hat hgrow)
  all_goals
    go_wp2
    go_ret
    have hln : (ls ++ [ws]).length = ls.length + 1 := by simp
    have hr := HR.out
    rw [hln] at hr
    have hd : decide ((ws.length : Int) ≤ 64) = decide (ws.length ≤ 64) := decide_eq_decide.2 (by omega)
    refine ⟨.slice A1 (ls.length + 1) c1, by rw [← hd]; rfl, ?_, ?_, ?_⟩
    · exact ((H.out.of_block (W1 := w1) (HG.out.block g (by exact hgs) (fun e => hvg e.symm))).set67 _).set66 _
    · exact Kd.S_far (p := ⟨g, 66, none⟩) (Kd.S_far (p := ⟨g, 67, none⟩) hr (fun _ hk => hk) _) (fun _ hk => hk) _
    · exact (hb.setCell (by exact hg) _).setCell (by exact hg) _
set_option maxHeartbeats 1600000 in
theorem end_none (g B : Nat) (s : ByteArray) (at_ : Int) (A : Option Addr) (c : Nat) (vl : Value) (ls : List (List ByteArray)) (w : World) (h : RD g s at_ (.slice A 0 c) vl w)
    (hg : B ≤ g) (hl : Kd.S KL 51 w B (fun k => k ≠ g) vl ls) :
    Calls Tryd.prog 38 #[.pointer (some ⟨g, 0, none⟩)] w fun e w' => e = .returned (.bool true) ∧ RD g s at_ (.slice none 0 0) vl w' ∧
      Kd.S KL 51 w' B (fun k => k ≠ g) vl ls ∧ Below B w w' := by
  have c66 := h.c66
  have f66 := h.fz 66
  have H := Lib.hid h
  have HL := Lib.hid hl
  clear h hl
  go_enter Tryd.func38, Tryd.ntmps38
  go_wp2
  go_ret
  exact ⟨rfl, H.out.set66 _, Kd.S_far (p := ⟨g, 66, none⟩) HL.out (fun _ hk => hk) _, (Below.refl _ _).setCell (by exact hg) _⟩
theorem end_any (g B : Nat) (s : ByteArray) (at_ : Int) (vw : Value) (ws : List ByteArray) (vl : Value) (ls : List (List ByteArray)) (w : World) (h : RD g s at_ vw vl w)
    (hg : B ≤ g) (hB : B ≤ w.heap.size) (hw : KW.R 9 w B (fun k => k ≠ g) vw ws)
    (hl : Kd.S KL 51 w B (fun k => k ≠ g ∧ some k ≠ vw.ownBlock) vl ls) (hn : ls.length < 100000) (hws2 : ws.length < 100000) :
    Calls Tryd.prog 38 #[.pointer (some ⟨g, 0, none⟩)] w fun e w' => ∃ vl', e = .returned (.bool (decide (ws.length ≤ 64))) ∧ RD g s at_ (.slice none 0 0) vl' w' ∧
      Kd.S KL 51 w' B (fun k => k ≠ g) vl' (endL ls ws) ∧ Below B w w' := by
  obtain ⟨A, c, rfl⟩ := Kd.R_slice hw
  by_cases hz : ws = []
  · subst hz
    refine (end_none g B s at_ A c vl ls w h hg (Kd.S_mono hl (fun _ hk => hk.1))).mono ?_
    rintro e w' ⟨rfl, h1, h2, h3⟩
    exact ⟨vl, rfl, h1, h2, h3⟩
  · refine (end_some g B s at_ A c ws vl ls w h hg hB hw hl hn (List.length_pos_iff.2 hz) hws2).mono ?_
    rintro e w' ⟨vl', rfl, h1, h2, h3⟩
    exact ⟨vl', rfl, h1, by unfold endL; rw [if_neg hz]; exact h2, h3⟩
end Go.Proofs.YtlghkomipboflaaDoor
end
section
namespace Go.Proofs.YtlghkomipboflaaDoor.Rd
open Go.RowKit Go.Proofs.YtlghkomipboflaaDoor Go.Proofs.YtlghkomipboflaaDoorW.PrintWords Go.Proofs.YtlghkomipboflaaDoorW.PrintLast Go.Proofs.YtlghkomipboflaaDoorW.PrintMore
set_option linter.unusedVariables false
set_option linter.unusedSimpArgs false
def RB (g : Nat) (vl vw vt vf : Value) (W : World) : Prop := W.heap[g]? = some (.cells #[vl, vw, vt, vf] 63 (0, 0))
theorem RB.c0 {g vl vw vt vf W} (h : RB g vl vw vt vf W) : W.cell? ⟨g, 0, none⟩ = some vl := by unfold RB at h; simp [World.cell?, h]
theorem RB.c1 {g vl vw vt vf W} (h : RB g vl vw vt vf W) : W.cell? ⟨g, 1, none⟩ = some vw := by unfold RB at h; simp [World.cell?, h]
theorem RB.c2 {g vl vw vt vf W} (h : RB g vl vw vt vf W) : W.cell? ⟨g, 2, none⟩ = some vt := by unfold RB at h; simp [World.cell?, h]
theorem RB.c3 {g vl vw vt vf W} (h : RB g vl vw vt vf W) : W.cell? ⟨g, 3, none⟩ = some vf := by unfold RB at h; simp [World.cell?, h]
theorem RB.fz {g vl vw vt vf W} (h : RB g vl vw vt vf W) (j : Nat) : W.frozen? ⟨g, j, none⟩ = false := by unfold RB at h; simp [World.frozen?, h]
theorem RB.set0 {g vl vw vt vf W} (h : RB g vl vw vt vf W) (v : Value) : RB g v vw vt vf (W.setCell ⟨g, 0, none⟩ v) := by unfold RB at h ⊢; rw [heap_set h]; rfl
theorem RB.set1 {g vl vw vt vf W} (h : RB g vl vw vt vf W) (v : Value) : RB g vl v vt vf (W.setCell ⟨g, 1, none⟩ v) := by unfold RB at h ⊢; rw [heap_set h]; rfl
theorem RB.set2 {g vl vw vt vf W} (h : RB g vl vw vt vf W) (v : Value) : RB g vl vw v vf (W.setCell ⟨g, 2, none⟩ v) := by unfold RB at h ⊢; rw [heap_set h]; rfl
theorem RB.set3 {g vl vw vt vf W} (h : RB g vl vw vt vf W) (v : Value) : RB g vl vw vt v (W.setCell ⟨g, 3, none⟩ v) := by unfold RB at h ⊢; rw [heap_set h]; rfl
theorem RB.of_block {g vl vw vt vf W W1} (h : RB g vl vw vt vf W) (hb : W1.heap[g]? = W.heap[g]?) : RB g vl vw vt vf W1 := by unfold RB at h ⊢; rw [hb, h]
theorem RB.lt {g vl vw vt vf W} (h : RB g vl vw vt vf W) : g < W.heap.size := blk_lt h
structure Lw (wL : World) (vl : Value) (ls : List (List ByteArray)) (vw : Value) (ws : List ByteArray) : Prop where
  ln : ∃ A c, vl = .slice A ls.length c ∧ ls.length ≤ c ∧ KL.C wL A ls.length ls
  wd : ∃ A c, vw = .slice A ws.length c ∧ ws.length ≤ c ∧ Kd.string.C wL A ws.length ws
structure At (wL : World) (ls : List (List ByteArray)) (ws : List ByteArray) (vt vf : Value) (W : World) : Prop where
  below : Below wL.heap.size wL W
  rb : ∃ vl vw, RB wL.heap.size vl vw vt vf W ∧ Lw wL vl ls vw ws
abbrev wrongV : Value := .iface 58 (.agg #[])
abbrev wrongC : List PanicEntry := [{ v := wrongV, recovered := false }]
def Gone (wL w : World) (e : Ending) (w' : World) : Prop := e = .panicked wrongC ∧ Below wL.heap.size wL w'
theorem need_yes (w : World) : Calls Tryd.prog 36 #[.bool true] w fun e w' => e = .returned (.tuple #[]) ∧ w' = w := by
  go_enter Tryd.func36, Tryd.ntmps36
  go_wp2
  go_end0
  exact ⟨rfl, rfl⟩
theorem need_no (w : World) : Calls Tryd.prog 36 #[.bool false] w fun e w' => e = .panicked wrongC ∧ w' = w := by
  go_enter Tryd.func36, Tryd.ntmps36
  go_wp2
  exact ⟨rfl, rfl, rfl⟩
theorem Lw.sliced {A : Option Addr} {α : Type} {d : Kd α} {wL : World} {xs : List α} {x : α} {c : Nat} (h : d.C wL A (x :: xs).length (x :: xs)) (hc : (x :: xs).length ≤ c) :
    d.C wL (if c = 1 then A else A.map (·.add (1 * d.sz))) xs.length xs := by
  have := Kd.C_drop (m := 1) h (by simp) hc
  simpa using this
theorem add0 (a : Addr) : a.add 0 = a := by unfold Addr.add; simp
theorem ln_at {wL W : World} {ls : List (List ByteArray)} {l : List ByteArray} {A : Option Addr} (h : KL.C wL A (l :: ls).length (l :: ls)) (hb : Below wL.heap.size wL W) :
    ∃ ad A0 c0, A = some ad ∧ W.cell? ad = some (.slice A0 l.length c0) ∧ l.length ≤ c0 ∧ Kd.string.C wL A0 l.length l := by
  obtain ⟨ad, c, e, _, hK, hc0⟩ := Kd.C_get h ([] : List ByteArray) 0 (by omega) (by simp)
  obtain ⟨A0, c0, rfl, l0, g0⟩ := hK
  have hq := hc0 0 _ rfl
  have e2 : ((l :: ls).getD (0 : Int).toNat []) = l := rfl
  rw [e2] at hq l0 g0
  refine ⟨ad, A0, c0, e, ?_, l0, g0⟩
  have hq' : wL.cell? (ad.add 0) = some (.slice A0 l.length c0) := hq
  rw [add0] at hq'
  exact (hb.cell (World.block_lt_of_cell? _ _ hq')).trans hq'
theorem wd_at {wL W : World} {ws : List ByteArray} {A : Option Addr} (h : Kd.string.C wL A ws.length ws) (hb : Below wL.heap.size wL W) (i : Nat) (hi : i < ws.length) :
    ∃ ad, A = some ad ∧ W.cell? (ad.add i) = some (.string (ws[i]'hi)) := by
  obtain ⟨ad, e, hc⟩ := Kd.at_string h (i : Int) (by omega) (by omega)
  have e2 : rdOf ByteArray.empty ws (i : Int) = ws[i] := by unfold rdOf; simp [hi]
  rw [e2, Int.toNat_natCast] at hc
  exact ⟨ad, e, (hb.cell (World.block_lt_of_cell? _ _ hc)).trans hc⟩
theorem first_nil (wL : World) (ws : List ByteArray) (vt vf : Value) (w : World) (h : At wL [] ws vt vf w) :
    Calls Tryd.prog 32 #[.pointer (some ⟨wL.heap.size, 0, none⟩)] w fun e w' => e = .returned (.string ⟨#[]⟩) ∧ w' = w := by
  obtain ⟨vl, vw, hr, ⟨A, c, rfl, _, _⟩, _⟩ := h.rb
  have c0 := hr.c0
  clear h hr
  go_enter Tryd.func32, Tryd.ntmps32
  go_wp2
  go_ret
  exact ⟨rfl, rfl⟩
theorem first_cons (wL : World) (x : ByteArray) (l : List ByteArray) (ls : List (List ByteArray)) (ws : List ByteArray) (vt vf : Value) (w : World) (h : At wL ((x :: l) :: ls) ws vt vf w) :
    Calls Tryd.prog 32 #[.pointer (some ⟨wL.heap.size, 0, none⟩)] w fun e w' => e = .returned (.string x) ∧ w' = w := by
  obtain ⟨vl, vw, hr, ⟨A, c, rfl, hc, hC⟩, _⟩ := h.rb
  obtain ⟨ad, A0, cc0, rfl, hcell, hlc, hC0⟩ := ln_at hC h.below
  obtain ⟨ad2, rfl, hcell2⟩ := wd_at hC0 h.below 0 (by simp)
  have c0 := hr.c0
  have n0 : ((((x :: l) :: ls).length : Int) == 0) = false := by rw [beq_eq_false_iff_ne]; simp; omega
  have i0 : (0 : Int) < (((x :: l) :: ls).length : Int) := by simp
  have i1 : (0 : Int) < ((x :: l).length : Int) := by simp
  have e2 : (x :: l)[0] = x := rfl
  rw [e2, add0] at hcell2
  obtain ⟨n, hn⟩ : ∃ n, n = ((x :: l) :: ls).length := ⟨_, rfl⟩
  obtain ⟨m, hm⟩ : ∃ m, m = (x :: l).length := ⟨_, rfl⟩
  rw [← hn] at c0 n0 i0
  rw [← hm] at hcell i1
  clear h hr hC hC0 hc hlc hn hm e2
  go_enter Tryd.func32, Tryd.ntmps32
  go_wp2
  go_ret
  exact ⟨rfl, rfl⟩
abbrev Same (wL w w' : World) : Prop := KeepBut w w' wL.heap.size none
theorem next_nil (wL : World) (ws : List ByteArray) (vt vf : Value) (w : World) (h : At wL [] ws vt vf w) :
    Calls Tryd.prog 33 #[.pointer (some ⟨wL.heap.size, 0, none⟩)] w fun e w' => e = .returned (.bool false) ∧ w' = w := by
  obtain ⟨vl, vw, hr, ⟨A, c, rfl, _, _⟩, _⟩ := h.rb
  have c0 := hr.c0
  clear h hr
  go_enter Tryd.func33, Tryd.ntmps33
  go_wp2
  go_ret
  exact ⟨rfl, rfl⟩
theorem infoRow : ∃ i, Tryd.prog.info? 51 = some i ∧ i.size = 1 := by
  obtain ⟨i0, hi0, _, hz1, _⟩ := info_parts Tryd.info42'
  exact ⟨i0, hi0, hz1⟩
theorem infoWord : ∃ i, Tryd.prog.info? 9 = some i ∧ i.size = 1 := by
  obtain ⟨i0, hi0, _, hz1, _⟩ := info_parts Tryd.info9'
  exact ⟨i0, hi0, hz1⟩
set_option maxRecDepth 100000 in
theorem next_cons (wL : World) (l : List ByteArray) (ls : List (List ByteArray)) (ws : List ByteArray) (vt vf : Value) (w : World) (h : At wL (l :: ls) ws vt vf w) :
    Calls Tryd.prog 33 #[.pointer (some ⟨wL.heap.size, 0, none⟩)] w fun e w' => e = .returned (.bool true) ∧ At wL ls l vt vf w' ∧ Same wL w w' := by
  obtain ⟨vl, vw, hr, ⟨A, c, rfl, hc, hC⟩, _⟩ := h.rb
  obtain ⟨ad, A0, cc0, rfl, hcell, hlc, hC0⟩ := ln_at hC h.below
  have c0 := hr.c0
  have c1 := hr.c1
  have f0 := hr.fz 0
  have f1 := hr.fz 1
  have n0 : (((l :: ls).length : Int) == 0) = false := by rw [beq_eq_false_iff_ne]; simp; omega
  have i0 : (0 : Int) < ((l :: ls).length : Int) := by simp
  have hS := Lw.sliced hC hc
  have hlen : (l :: ls).length - 1 = ls.length := by simp
  obtain ⟨inf, hi, hsz⟩ := infoRow
  have hcut := cut_from 46 51 .i64 Tryd.underlying46 hi 1 hsz (some ad) (l :: ls).length c 1 (by omega) (by simp; omega)
  rw [show (1 : Int).toNat = 1 from rfl, hlen] at hcut
  have hle : ls.length ≤ c - 1 := by simp at hc; omega
  have HB := Lib.hid h.below
  have HR := Lib.hid hr
  have HS := Lib.hid hS
  have HC0 := Lib.hid hC0
  obtain ⟨n, hn⟩ : ∃ n, n = (l :: ls).length := ⟨_, rfl⟩
  obtain ⟨m, hm⟩ : ∃ m, m = l.length := ⟨_, rfl⟩
  obtain ⟨A2, hA2⟩ : ∃ A2, A2 = (if c = 1 then some ad else (some ad).map (·.add (1 * 1))) := ⟨_, rfl⟩
  rw [← hn] at c0 n0 i0 hcut
  rw [← hA2] at hcut
  rw [← hm] at hcell
  have HM := Lib.hid hm
  have HA2 := Lib.hid hA2
  clear h hr hC hC0 hn hm hA2 hS hi hsz hlen
  go_enter Tryd.func33, Tryd.ntmps33
  go_wp2
  go_region
  all_goals
    go_wp2
    go_ret
    refine ⟨rfl, ⟨?_, ?_⟩, ?_⟩
    · exact ((HB.out.setCell (Nat.le_refl _) _).setCell (Nat.le_refl _) _).drew
    · exact ⟨_, _, (HR.out.set1 _).set0 _, ⟨A2, _, rfl, hle, by rw [HA2.out]; exact HS.out⟩, ⟨A0, _, by rw [HM.out], hlc, HC0.out⟩⟩
    · exact ((KeepBut.refl _ _ _).set_ 1 _).set_ 0 _
theorem word_bad (wL : World) (ls : List (List ByteArray)) (vt vf : Value) (w : World) (h : At wL ls [] vt vf w) :
    Calls Tryd.prog 34 #[.pointer (some ⟨wL.heap.size, 0, none⟩)] w (Gone wL w) := by
  obtain ⟨vl, vw, hr, _, ⟨A, c, rfl, _, _⟩⟩ := h.rb
  have c1 := hr.c1
  have HB := Lib.hid h.below
  clear h hr
  go_enter Tryd.func34, Tryd.ntmps34
  go_wp2_with (go_at_call 36; refine (need_no _).mono ?_; rintro e w' ⟨rfl, hw⟩; rw [hw])
  exact ⟨rfl, rfl, HB.out⟩
set_option maxRecDepth 100000 in
theorem word_ok (wL : World) (ls : List (List ByteArray)) (x : ByteArray) (ws : List ByteArray) (vt vf : Value) (w : World) (h : At wL ls (x :: ws) vt vf w) :
    Calls Tryd.prog 34 #[.pointer (some ⟨wL.heap.size, 0, none⟩)] w fun e w' => e = .returned (.string x) ∧ At wL ls ws vt vf w' ∧ Same wL w w' := by
  obtain ⟨vl, vw, hr, hln, ⟨A, c, rfl, hc, hC⟩⟩ := h.rb
  obtain ⟨ad, rfl, hcell⟩ := wd_at hC h.below 0 (by simp)
  rw [add0, show (x :: ws)[0] = x from rfl] at hcell
  have c1 := hr.c1
  have f1 := hr.fz 1
  have n0 : decide (0 < (x :: ws).length) = true := decide_eq_true (by simp)
  have i0 : (0 : Int) < ((x :: ws).length : Int) := by simp 
  have hS := Lw.sliced hC hc
  have hlen : (x :: ws).length - 1 = ws.length := by simp
  obtain ⟨inf, hi, hsz⟩ := infoWord
  have hcut := cut_from 51 9 .i64 Tryd.underlying51 hi 1 hsz (some ad) (x :: ws).length c 1 (by omega) (by simp; omega)
  rw [show (1 : Int).toNat = 1 from rfl, hlen] at hcut
  have hle : ws.length ≤ c - 1 := by simp at hc; omega
  have HB := Lib.hid h.below
  have HR := Lib.hid hr
  have HS := Lib.hid hS
  have HLN := Lib.hid hln
  obtain ⟨n, hn⟩ : ∃ n, n = (x :: ws).length := ⟨_, rfl⟩
  obtain ⟨A2, hA2⟩ : ∃ A2, A2 = (if c = 1 then some ad else (some ad).map (·.add (1 * 1))) := ⟨_, rfl⟩
  rw [← hn] at c1 n0 i0 hcut
  rw [← hA2] at hcut
  have HA2 := Lib.hid hA2
  clear h hr hC hn hA2 hS hi hsz hlen hln
  go_enter Tryd.func34, Tryd.ntmps34
  go_wp2_with (go_at_call 36; refine (need_yes _).mono ?_; rintro e w' ⟨rfl, hw⟩; rw [hw])
  go_ret
  exact ⟨rfl, ⟨HB.out.setCell (Nat.le_refl _) _, _, _, HR.out.set1 _, HLN.out, ⟨A2, _, rfl, hle, by rw [HA2.out]; exact HS.out⟩⟩, (KeepBut.refl _ _ _).set_ 1 _⟩
end Go.Proofs.YtlghkomipboflaaDoor.Rd
end
section
namespace Go.Proofs.YtlghkomipboflaaDoor
open Go.RowKit
set_option linter.unusedVariables false
def DigPost (s : ByteArray) (w : World) (e : Ending) (w' : World) : Prop :=
  ∃ n : Int, ∃ b : Bool, e = .returned (.tuple #[.int .u64 n, .bool b]) ∧ Below w.heap.size w w' ∧ b = s.data.toList.all isDig ∧ (b = true → n = (decVal s.data.toList % 18446744073709551616 : Nat))
def DigRel (s : ByteArray) (pos : Nat) (n : Int) : Prop := pos ≤ s.size ∧ (s.data.toList.take pos).all isDig = true ∧ n = (decVal (s.data.toList.take pos) % 18446744073709551616 : Nat)
theorem digRel_step {s : ByteArray} {pos : Nat} {n : Int} (h : DigRel s pos n) (hp : pos < s.size) (h1 : 48 ≤ s[pos].toNat) (h2 : s[pos].toNat ≤ 57) :
    DigRel s (pos + 1) (IntKind.u64.wrap (IntKind.u64.wrap (10 * n) + ((s[pos].toNat : Int) - 48))) := by
  obtain ⟨_, ha, rfl⟩ := h
  refine ⟨by omega, ?_, ?_⟩
  · rw [take_snoc s pos hp, List.all_append, ha]; simp [isDig, h1, h2]
  · rw [take_snoc s pos hp, decVal_snoc]
    generalize decVal (List.take pos s.data.toList) = d
    generalize s[pos].toNat = c at *
    have e : ∀ z : Int, IntKind.u64.wrap z = z % 18446744073709551616 := fun z => by simp [IntKind.wrap, IntKind.signed, IntKind.bits]
    rw [e, e]
    omega
theorem digRel_end {s : ByteArray} {pos : Nat} {n : Int} (h : DigRel s pos n) (hp : ¬ pos < s.size) : s.data.toList.all isDig = true ∧ n = (decVal s.data.toList % 18446744073709551616 : Nat) := by
  obtain ⟨h0, ha, hn⟩ := h
  have : s.data.toList.take pos = s.data.toList := List.take_of_length_le (by simp; omega)
  rw [this] at ha hn
  exact ⟨ha, hn⟩
theorem digRel_no {s : ByteArray} {pos : Nat} (hp : pos < s.size) (h : ¬ (48 ≤ s[pos].toNat ∧ s[pos].toNat ≤ 57)) : s.data.toList.all isDig = false := by
  rw [List.all_eq_false]
  refine ⟨s[pos], ?_, by simp [isDig]; omega⟩
  show s.data[pos] ∈ s.data.toList
  simp
theorem below_iter {w : World} {s : ByteArray} {pos : Nat} : Below w.heap.size w (w.iter s pos) := by
  unfold World.iter; exact (Below.refl _ _).alloc (Nat.le_refl _) _
set_option maxHeartbeats 400000 in
theorem digits_any (s : ByteArray) (w : World) :
    Calls Tryd.prog 31 #[.string s] w (DigPost s w) := by
  go_enter Tryd.func31, Tryd.ntmps31
  go_wp2
  go_step3
  go_wp2
  go_step3
  go_wp2
  go_loopw [2, 3] (fun n b w' => ∃ (pos : Nat) (nn : Int), w' = w.iter s pos ∧ b = .bool true ∧ n = .int .u64 nn ∧ DigRel s pos nn) (fun _ _ w' => s.size - w'.iterPos w.heap.size)
  case atStart => exact ⟨0, 0, rfl, rfl, rfl, Nat.zero_le _, rfl, rfl⟩
  case round =>
    obtain ⟨pos, nn, rfl, rfl, rfl, hr⟩ := hrel
    have HR := Lib.hid hr
    clear hr
    by_cases hp : pos < s.size
    · by_cases ha : s[pos].toNat < 128
      · have hnx : ∀ ty, (Instr.next (.pointer (some ⟨w.heap.size, 0, none⟩)) true ty).run Tryd.prog (w.iter s pos) = _ := fun ty => run_next_ascii w s pos ty hp ha
        by_cases h1 : s[pos].toNat < 48
        · go_wp2
          try simp only [Exit.noGoto_ret]
          go_ret2
          exact ⟨_, _, rfl, below_iter, (digRel_no hp (by omega)).symm, fun h => by cases h⟩
        · by_cases h2 : 57 < s[pos].toNat
          · go_wp2
            try simp only [Exit.noGoto_ret]
            go_ret2
            exact ⟨_, _, rfl, below_iter, (digRel_no hp (by omega)).symm, fun h => by cases h⟩
          · go_wp2
            go_roundw
            case rel => exact ⟨pos + 1, _, rfl, rfl, rfl, digRel_step HR.out hp (by omega) (by omega)⟩
            case measure => simp; omega
      · have hnx : ∀ ty, (Instr.next (.pointer (some ⟨w.heap.size, 0, none⟩)) true ty).run Tryd.prog (w.iter s pos) = _ := fun ty => run_next_any w s pos ty hp
        have hh := (decode_high s pos hp (by omega)).1
        go_wp2
        try simp only [Exit.noGoto_ret]
        go_ret2
        exact ⟨_, _, rfl, below_iter, (digRel_no hp (by omega)).symm, fun h => by cases h⟩
    · have hnx : ∀ ty, (Instr.next (.pointer (some ⟨w.heap.size, 0, none⟩)) true ty).run Tryd.prog (w.iter s pos) = _ := fun ty => run_next_end w s pos ty hp
      have he := Lib.hid (digRel_end HR.out hp)
      go_wp2
      try simp only [Exit.noGoto_ret]
      go_ret2
      exact ⟨_, _, rfl, below_iter, he.out.1.symm, fun _ => he.out.2⟩
def cutL (s : ByteArray) (c : UInt8) : ByteArray × Bool := if s.data.toList.head? = some c then (s.extract 1 s.size, true) else (s, false)
theorem head_get {s : ByteArray} (h : 0 < s.size) : s.data.toList.head? = some (s[0]'h) := by
  have : s.data.toList = s[0]'h :: s.data.toList.tail := by
    have h' : 0 < s.data.toList.length := by simpa using h
    cases e : s.data.toList with
    | nil => rw [e] at h'; simp at h'
    | cons x t =>
      have : s.data.toList[0]'h' = x := by simp [e]
      rw [← this]; rfl
  rw [this]; rfl
theorem hasPrefix_any (s : ByteArray) (c : UInt8) (w : World) :
    Calls Tryd.prog 72 #[.string s, .string ⟨#[c]⟩] w fun e w' => e = .returned (.bool (decide (s.data.toList.head? = some c))) ∧ w = w' := by
  have hsz : (⟨#[c]⟩ : ByteArray).size = 1 := rfl
  by_cases h : 1 ≤ s.size
  · have hl : ((s.extract 0 1).toList == [c]) = decide (s.data.toList.head? = some c) := by
      rw [ByteArray.toList_eq, head_get h]
      have e : (s.extract 0 1).data.toList = [s[0]'h] := by
        have := take_snoc s 0 h
        simp at this
        simp [this]
      rw [e]
      rw [Bool.eq_iff_iff]; simp
    have HL := Lib.hid hl
    clear hl
    go_enter Tryd.func72, Tryd.ntmps72
    go_wp2
    go_ret
    exact ⟨by rw [← HL.out]; rfl, rfl⟩
  · have h0 : s.data.toList.head? = none := by
      have hz : s.data.toList.length = s.size := by simp
      have : s.data.toList = [] := List.eq_nil_of_length_eq_zero (by omega)
      rw [this]; rfl
    have H0 := Lib.hid h0
    clear h0
    go_enter Tryd.func72, Tryd.ntmps72
    go_wp2
    go_ret
    exact ⟨by rw [H0.out]; rfl, rfl⟩
theorem slCut_any (s : ByteArray) (c : UInt8) (w : World) :
    Calls Tryd.prog 51 #[.string s, .string ⟨#[c]⟩] w fun e w' => e = .returned (.tuple #[.string (cutL s c).1, .bool (cutL s c).2]) ∧ w = w' := by
  have hsz : (⟨#[c]⟩ : ByteArray).size = 1 := rfl
  by_cases h : s.data.toList.head? = some c
  · have hc : cutL s c = (s.extract 1 s.size, true) := if_pos h
    have HC := Lib.hid hc
    have h1 : 1 ≤ s.size := by
      rcases Nat.eq_zero_or_pos s.size with hz | hz
      · have hl : s.data.toList.length = s.size := by simp
        have : s.data.toList = [] := List.eq_nil_of_length_eq_zero (by omega)
        rw [this] at h; cases h
      · exact hz
    have hd : decide (s.data.toList.head? = some c) = true := decide_eq_true h
    have HD := Lib.hid hd
    clear hc h hd
    go_enter Tryd.func51, Tryd.ntmps51
    go_wp2_with (go_at_call 72; refine (hasPrefix_any s c _).mono ?_; rw [HD.out]; rintro e w' ⟨rfl, rfl⟩)
    go_ret2
    exact ⟨by rw [HC.out]; rfl, rfl⟩
  · have hc : cutL s c = (s, false) := if_neg h
    have HC := Lib.hid hc
    have hd : decide (s.data.toList.head? = some c) = false := decide_eq_false h
    have HD := Lib.hid hd
    clear hc h hd
    go_enter Tryd.func51, Tryd.ntmps51
    go_wp2_with (go_at_call 72; refine (hasPrefix_any s c _).mono ?_; rw [HD.out]; rintro e w' ⟨rfl, rfl⟩)
    go_ret2
    exact ⟨by rw [HC.out]; rfl, rfl⟩
theorem cut_any (s : ByteArray) (c : UInt8) (w : World) :
    Calls Tryd.prog 30 #[.string s, .string ⟨#[c]⟩] w fun e w' => e = .returned (.tuple #[.string (cutL s c).1, .bool (cutL s c).2]) ∧ w = w' := by
  have H := Lib.hid (slCut_any s c)
  generalize cutL s c = p at *
  obtain ⟨r, b⟩ := p
  go_enter Tryd.func30, Tryd.ntmps30
  go_wp2_with (go_at_call 51; refine (H.out _).mono ?_; rintro e w' ⟨rfl, rfl⟩)
  go_ret2
  exact ⟨rfl, rfl⟩
theorem zero_any (pe pn : Addr) (ev nv : Int) (w : World) (he : w.cell? pe = some (.int .i64 ev)) (hn : w.cell? pn = some (.int .i64 nv)) (hz : w.frozen? pn = false) :
    CallsD Tryd.prog 29 #[.pointer (some pe), .pointer (some pn)] .returning w fun e u' w' =>
      u' = .returning ∧ (e = .returned (.tuple #[]) ∧ w' = if ev = 0 then w else w.setCell pn (.int .i64 0)) := by
  by_cases h : ev = 0
  · have hb : (ev != 0) = false := by simp [h]
    have HH := Lib.hid h
    clear h
    go_enter_d Tryd.func29, Tryd.ntmps29
    go_wp2
    go_end0
    first | exact ⟨rfl, by rw [if_pos HH.out]⟩ | exact ⟨rfl, rfl⟩
  · have hb : (ev != 0) = true := by simp [h]
    have HH := Lib.hid h
    clear h
    go_enter_d Tryd.func29, Tryd.ntmps29
    go_wp2
    go_end0
    first | exact ⟨rfl, by rw [if_neg HH.out]⟩ | exact ⟨rfl, rfl⟩
theorem two_cells {w w1 : World} {a b : Value} {ta tb : Nat} (h : Below ((w.alloc (.cells #[a] ta)).alloc (.cells #[b] tb)).heap.size ((w.alloc (.cells #[a] ta)).alloc (.cells #[b] tb)) w1) :
    w1.cell? ⟨w.heap.size, 0, none⟩ = some a ∧ w1.cell? ⟨w.heap.size + 1, 0, none⟩ = some b ∧ w1.frozen? ⟨w.heap.size, 0, none⟩ = false ∧ w1.frozen? ⟨w.heap.size + 1, 0, none⟩ = false ∧ Below w.heap.size w w1 := by
  have hs : ((w.alloc (.cells #[a] ta)).alloc (.cells #[b] tb)).heap.size = w.heap.size + 2 := by simp
  rw [hs] at h
  have e0 := h.cell (p := ⟨w.heap.size, 0, none⟩) (by show w.heap.size < w.heap.size + 2; omega)
  have e1 := h.cell (p := ⟨w.heap.size + 1, 0, none⟩) (by show w.heap.size + 1 < w.heap.size + 2; omega)
  have g0 := h.frozen (p := ⟨w.heap.size, 0, none⟩) (by show w.heap.size < w.heap.size + 2; omega)
  have g1 := h.frozen (p := ⟨w.heap.size + 1, 0, none⟩) (by show w.heap.size + 1 < w.heap.size + 2; omega)
  refine ⟨e0.trans (by go_simp), e1.trans (by go_simp), g0.trans (by go_simp), g1.trans (by go_simp), ?_⟩
  exact (((Below.refl _ _).alloc (Nat.le_refl _) _).alloc (by simp) _).trans (h.mono (by omega))
def Facts (w : World) (ev nv : Int) (W : World) : Prop :=
  W.cell? ⟨w.heap.size, 0, none⟩ = some (.int .i64 nv) ∧ W.cell? ⟨w.heap.size + 1, 0, none⟩ = some (.int .i64 ev) ∧ W.frozen? ⟨w.heap.size, 0, none⟩ = false ∧ W.frozen? ⟨w.heap.size + 1, 0, none⟩ = false ∧ Below w.heap.size w W
def ReadEnd (s : ByteArray) (w : World) (e : Ending) (w' : World) : Prop :=
  e = .returned (.tuple #[.int .i64 (readL s.data.toList).1, .int .i64 (readL s.data.toList).2]) ∧ Below w.heap.size w w'
theorem read_door (s : ByteArray) (w W : World) (ev nv : Int) (tmps : Array Value) (h2 : tmps[2]? = some (.pointer (some ⟨w.heap.size, 0, none⟩))) (h3 : tmps[3]? = some (.pointer (some ⟨w.heap.size + 1, 0, none⟩)))
    (hF : Facts w ev nv W) (hE : readL s.data.toList = (if ev = 0 then nv else 0, ev)) :
    bodyPostD Tryd.prog Tryd.f15 (ReadEnd s w) Exit.ret { tmps := tmps, defers := [{ target := Target.fn (Fn.func 29) #[.pointer (some ⟨w.heap.size + 1, 0, none⟩), .pointer (some ⟨w.heap.size, 0, none⟩)], args := #[] }] } W := by
  obtain ⟨d0, d1, g0, g1, hb⟩ := hF
  refine leaves_cons (f := 29) (args := #[.pointer (some ⟨w.heap.size + 1, 0, none⟩), .pointer (some ⟨w.heap.size, 0, none⟩)]) (by simp) (by simp [go_sem]) ?_
  refine (zero_any _ _ ev nv _ d1 d0 g0).mono ?_
  rintro e u' w'' ⟨rfl, rfl, rfl⟩
  by_cases h : ev = 0
  · rw [if_pos h] at hE ⊢
    simp [Leaves, settle, results, Tryd.results15, go_sem, h2, h3, d0, d1, ReadEnd, hE, hb]
  · rw [if_neg h] at hE ⊢
    have e0 : (W.setCell ⟨w.heap.size, 0, none⟩ (.int .i64 0)).cell? ⟨w.heap.size, 0, none⟩ = some (.int .i64 0) := by simp [cell_set, d0]
    have e1 : (W.setCell ⟨w.heap.size, 0, none⟩ (.int .i64 0)).cell? ⟨w.heap.size + 1, 0, none⟩ = some (.int .i64 ev) := by simp [cell_set, d1]
    have eb : Below w.heap.size w (W.setCell ⟨w.heap.size, 0, none⟩ (.int .i64 0)) := hb.setCell (by simp) _
    simp [Leaves, settle, results, Tryd.results15, go_sem, h2, h3, e0, e1, ReadEnd, hE, eb]
def Pass (l r : List UInt8) (minus : Bool) : Prop :=
  readL l = if r.all isDig = false then (0, 10) else if (if minus then 9223372036854775808 else 9223372036854775807) < decVal r then (0, 10) else (if minus then -(decVal r : Int) else (decVal r : Int), 0)
theorem pass_bad {l r : List UInt8} {minus : Bool} (h : Pass l r minus) (hb : false = r.all isDig) : readL l = (0, 10) := by
  rw [h, if_pos hb.symm]
theorem pass_big {l r : List UInt8} {minus : Bool} (h : Pass l r minus) (hb : true = r.all isDig) (n : Int) (hn : n = (decVal r % 18446744073709551616 : Nat)) (hr : r.length ≤ 19) (hg : (if minus then 9223372036854775808 else 9223372036854775807) < n) : readL l = (0, 10) := by
  have h1 := decVal_lt r hb.symm
  have h2 : 10 ^ r.length ≤ 10 ^ 19 := Nat.pow_le_pow_right (by omega) hr
  rw [h, if_neg (by rw [← hb]; simp)]
  cases minus
  · rw [if_pos]; simp at hg ⊢; omega
  · rw [if_pos]; simp at hg ⊢; omega
theorem pass_ok {l r : List UInt8} {minus : Bool} (h : Pass l r minus) (hb : true = r.all isDig) (n : Int) (hn : n = (decVal r % 18446744073709551616 : Nat)) (hr : r.length ≤ 19) (hg : ¬ (if minus then 9223372036854775808 else 9223372036854775807) < n) :
    readL l = (if minus then wrap64 (-wrap64 n) else wrap64 n, 0) := by
  have h1 := decVal_lt r hb.symm
  have h2 : 10 ^ r.length ≤ 10 ^ 19 := Nat.pow_le_pow_right (by omega) hr
  rw [h, if_neg (by rw [← hb]; simp)]
  cases minus
  · rw [if_neg (by simp at hg ⊢; omega)]
    simp at hg ⊢
    unfold wrap64
    omega
  · rw [if_neg (by simp at hg ⊢; omega)]
    simp at hg ⊢
    unfold wrap64
    omega
set_option maxHeartbeats 1600000 in
theorem read_pass (s : ByteArray) (w : World) (rest : ByteArray) (minus : Bool) (hcut : cutL s 45 = (rest, minus)) (h0 : rest.toList.isEmpty = false) (h0' : ¬ rest.toList = []) (hp : 0 < rest.size) (h1 : rest.size ≤ 19)
    (hz : (rest[0]'hp).toNat = 48 → (!s.toList == [48]) = false) (hP : Pass s.data.toList rest.data.toList minus) :
    Calls Tryd.prog 15 #[.string s] w (ReadEnd s w) := by
  have hmf : ∀ (fn : Fn) (first cap : Array Value) (w : World), (Instr.makeFunc fn first cap).run Tryd.prog w = .ok (.func fn first cap) w := fun _ _ _ _ => rfl
  have hlen : rest.data.toList.length ≤ 19 := by simpa using h1
  have HLEN := Lib.hid hlen
  have HP := Lib.hid hP
  have HC := Lib.hid (cut_any s 45)
  rw [hcut] at HC
  clear hcut hP hlen
  by_cases h2 : (rest[0]'hp).toNat = 48
  all_goals
    first | have hz' := hz h2 | skip
    clear hz
    cases minus
    · go_enter_defers Tryd.func15, Tryd.ntmps15
      go_wp2_with (go_at_call 30; refine (HC.out _).mono ?_; rintro e w' ⟨rfl, rfl⟩)
      refine (digits_any rest _).mono ?_
      rintro e w1 ⟨n, b, rfl, hb, hb1, hb2⟩
      have HB1 := Lib.hid hb1
      have HB2 := Lib.hid hb2
      clear hb1 hb2
      obtain ⟨c0, c1, f0, f1, hB⟩ := two_cells hb
      clear hb
      cases b
      · go_wp2
        refine wp_at (Facts w 10 _) (by refine ⟨by simp [cell_set, c0]; rfl, by simp [cell_set, c1], by simp [f0], by simp [f1], ?_⟩; first | exact ((hB.setCell (by simp) _).setCell (by simp) _).setCell (by simp) _ | exact (hB.setCell (by simp) _).setCell (by simp) _) ?_
        rintro W ⟨d0, d1, g0, g1, hb⟩
        go_region
        all_goals go_wp2
        all_goals refine read_door s w _ 10 _ _ rfl rfl (by refine ⟨by simp [cell_set, d0]; rfl, by simp [cell_set, d1], by simp [g0], by simp [g1], ?_⟩; exact ((hb.setCell (by simp) _).setCell (by simp) _).drew) ?_
        all_goals exact pass_bad HP.out HB1.out
      · by_cases hg : (if (false : Bool) then (9223372036854775808 : Int) else 9223372036854775807) < n
        · have HG := Lib.hid hg
          simp at hg
          go_wp2
          refine wp_at (Facts w 10 _) (by refine ⟨by simp [cell_set, c0]; rfl, by simp [cell_set, c1], by simp [f0], by simp [f1], ?_⟩; first | exact ((hB.setCell (by simp) _).setCell (by simp) _).setCell (by simp) _ | exact (hB.setCell (by simp) _).setCell (by simp) _) ?_
          rintro W ⟨d0, d1, g0, g1, hb⟩
          go_region
          all_goals go_wp2
          all_goals refine read_door s w _ 10 _ _ rfl rfl (by refine ⟨by simp [cell_set, d0]; rfl, by simp [cell_set, d1], by simp [g0], by simp [g1], ?_⟩; exact ((hb.setCell (by simp) _).setCell (by simp) _).drew) ?_
          all_goals exact pass_big HP.out HB1.out n (HB2.out (by trivial)) HLEN.out HG.out
        · have HG := Lib.hid hg
          simp at hg
          go_wp2
          refine wp_at (Facts w 0 _) (by refine ⟨by simp [cell_set, c0]; rfl, by simp [cell_set, c1], by simp [f0], by simp [f1], ?_⟩; first | exact (hB.setCell (by simp) _).setCell (by simp) _ | exact hB.setCell (by simp) _) ?_
          rintro W ⟨d0, d1, g0, g1, hb⟩
          go_region
          all_goals go_wp2
          all_goals refine read_door s w _ 0 _ _ rfl rfl (by refine ⟨by simp [cell_set, d0]; rfl, by simp [cell_set, d1], by simp [g0], by simp [g1], ?_⟩; exact ((hb.setCell (by simp) _).setCell (by simp) _).drew) ?_
          all_goals exact pass_ok HP.out HB1.out n (HB2.out (by trivial)) HLEN.out (fun h => by have h1 := HG.out; simp at h h1; omega)
    · go_enter_defers Tryd.func15, Tryd.ntmps15
      go_wp2_with (go_at_call 30; refine (HC.out _).mono ?_; rintro e w' ⟨rfl, rfl⟩)
      refine (digits_any rest _).mono ?_
      rintro e w1 ⟨n, b, rfl, hb, hb1, hb2⟩
      have HB1 := Lib.hid hb1
      have HB2 := Lib.hid hb2
      clear hb1 hb2
      obtain ⟨c0, c1, f0, f1, hB⟩ := two_cells hb
      clear hb
      cases b
      · go_wp2
        refine wp_at (Facts w 10 _) (by refine ⟨by simp [cell_set, c0]; rfl, by simp [cell_set, c1], by simp [f0], by simp [f1], ?_⟩; first | exact ((hB.setCell (by simp) _).setCell (by simp) _).setCell (by simp) _ | exact (hB.setCell (by simp) _).setCell (by simp) _) ?_
        rintro W ⟨d0, d1, g0, g1, hb⟩
        go_region
        all_goals go_wp2
        all_goals refine read_door s w _ 10 _ _ rfl rfl (by refine ⟨by simp [cell_set, d0]; rfl, by simp [cell_set, d1], by simp [g0], by simp [g1], ?_⟩; exact ((hb.setCell (by simp) _).setCell (by simp) _).drew) ?_
        all_goals exact pass_bad HP.out HB1.out
      · by_cases hg : (if (true : Bool) then (9223372036854775808 : Int) else 9223372036854775807) < n
        · have HG := Lib.hid hg
          simp at hg
          go_wp2
          refine wp_at (Facts w 10 _) (by refine ⟨by simp [cell_set, c0]; rfl, by simp [cell_set, c1], by simp [f0], by simp [f1], ?_⟩; first | exact ((hB.setCell (by simp) _).setCell (by simp) _).setCell (by simp) _ | exact (hB.setCell (by simp) _).setCell (by simp) _) ?_
          rintro W ⟨d0, d1, g0, g1, hb⟩
          go_region
          all_goals go_wp2
          all_goals refine read_door s w _ 10 _ _ rfl rfl (by refine ⟨by simp [cell_set, d0]; rfl, by simp [cell_set, d1], by simp [g0], by simp [g1], ?_⟩; exact ((hb.setCell (by simp) _).setCell (by simp) _).drew) ?_
          all_goals exact pass_big HP.out HB1.out n (HB2.out (by trivial)) HLEN.out HG.out
        · have HG := Lib.hid hg
          simp at hg
          go_wp2
          refine wp_at (Facts w 0 _) (by refine ⟨by simp [cell_set, c0]; rfl, by simp [cell_set, c1], by simp [f0], by simp [f1], ?_⟩; first | exact (hB.setCell (by simp) _).setCell (by simp) _ | exact hB.setCell (by simp) _) ?_
          rintro W ⟨d0, d1, g0, g1, hb⟩
          go_region
          all_goals go_wp2
          all_goals refine read_door s w _ 0 _ _ rfl rfl (by refine ⟨by simp [cell_set, d0]; rfl, by simp [cell_set, d1], by simp [g0], by simp [g1], ?_⟩; exact ((hb.setCell (by simp) _).setCell (by simp) _).drew) ?_
          all_goals exact pass_ok HP.out HB1.out n (HB2.out (by trivial)) HLEN.out (fun h => by have h1 := HG.out; simp at h h1; omega)
theorem early_end (s : ByteArray) (w : World) (tmps : Array Value) (h2 : tmps[2]? = some (.pointer (some ⟨w.heap.size, 0, none⟩))) (h3 : tmps[3]? = some (.pointer (some ⟨w.heap.size + 1, 0, none⟩))) (hE : readL s.data.toList = (0, 10)) {ta tb : Nat} :
    bodyPostD Tryd.prog Tryd.f15 (ReadEnd s w) Exit.ret { tmps := tmps, defers := [{ target := Target.fn (Fn.func 29) #[.pointer (some ⟨w.heap.size + 1, 0, none⟩), .pointer (some ⟨w.heap.size, 0, none⟩)], args := #[] }] } ((w.alloc (.cells #[.int .i64 0] ta)).alloc (.cells #[.int .i64 10] tb)) := by
  obtain ⟨c0, c1, f0, f1, hB⟩ := two_cells (w := w) (ta := ta) (tb := tb) (a := .int .i64 0) (b := .int .i64 10) (Below.refl _ _)
  exact read_door s w _ 10 0 tmps h2 h3 ⟨c0, c1, f0, f1, hB⟩ (by rw [hE]; rfl)
set_option maxHeartbeats 800000 in
theorem read_empty (s : ByteArray) (w : World) (rest : ByteArray) (minus : Bool) (hcut : cutL s 45 = (rest, minus)) (h0 : rest.toList.isEmpty = true) (h0' : rest.toList = []) (hE : readL s.data.toList = (0, 10)) :
    Calls Tryd.prog 15 #[.string s] w (ReadEnd s w) := by
  have hmf : ∀ (fn : Fn) (first cap : Array Value) (w : World), (Instr.makeFunc fn first cap).run Tryd.prog w = .ok (.func fn first cap) w := fun _ _ _ _ => rfl
  have HE := Lib.hid hE
  have HC := Lib.hid (cut_any s 45)
  rw [hcut] at HC
  clear hcut hE
  go_enter_defers Tryd.func15, Tryd.ntmps15
  go_wp2_with (go_at_call 30; refine (HC.out _).mono ?_; rintro e w' ⟨rfl, rfl⟩)
  exact early_end s w _ rfl rfl HE.out
set_option maxHeartbeats 800000 in
theorem read_long (s : ByteArray) (w : World) (rest : ByteArray) (minus : Bool) (hcut : cutL s 45 = (rest, minus)) (h0 : rest.toList.isEmpty = false) (h0' : ¬ rest.toList = []) (h1 : ¬ rest.size ≤ 19) (hE : readL s.data.toList = (0, 10)) :
    Calls Tryd.prog 15 #[.string s] w (ReadEnd s w) := by
  have hmf : ∀ (fn : Fn) (first cap : Array Value) (w : World), (Instr.makeFunc fn first cap).run Tryd.prog w = .ok (.func fn first cap) w := fun _ _ _ _ => rfl
  have HE := Lib.hid hE
  have HC := Lib.hid (cut_any s 45)
  rw [hcut] at HC
  clear hcut hE
  have h2 : 19 < rest.size := by omega
  clear h1
  go_enter_defers Tryd.func15, Tryd.ntmps15
  go_wp2_with (go_at_call 30; refine (HC.out _).mono ?_; rintro e w' ⟨rfl, rfl⟩)
  exact early_end s w _ rfl rfl HE.out
set_option maxHeartbeats 800000 in
theorem read_zero (s : ByteArray) (w : World) (rest : ByteArray) (minus : Bool) (hcut : cutL s 45 = (rest, minus)) (h0 : rest.toList.isEmpty = false) (h0' : ¬ rest.toList = []) (hp : 0 < rest.size) (h1 : rest.size ≤ 19)
    (h2 : (rest[0]'hp).toNat = 48) (hz : (!s.toList == [48]) = true) (hE : readL s.data.toList = (0, 10)) :
    Calls Tryd.prog 15 #[.string s] w (ReadEnd s w) := by
  have hmf : ∀ (fn : Fn) (first cap : Array Value) (w : World), (Instr.makeFunc fn first cap).run Tryd.prog w = .ok (.func fn first cap) w := fun _ _ _ _ => rfl
  have HE := Lib.hid hE
  have HC := Lib.hid (cut_any s 45)
  rw [hcut] at HC
  clear hcut hE
  go_enter_defers Tryd.func15, Tryd.ntmps15
  go_wp2_with (go_at_call 30; refine (HC.out _).mono ?_; rintro e w' ⟨rfl, rfl⟩)
  exact early_end s w _ rfl rfl HE.out
theorem cutL_fst (s : ByteArray) (c : UInt8) : (cutL s c).1.data.toList = if s.data.toList.head? = some c then s.data.toList.tail else s.data.toList := by
  unfold cutL
  split
  · rw [Lib.extract_to_end]; cases s.data.toList <;> rfl
  · rfl
theorem cutL_snd (s : ByteArray) (c : UInt8) : (cutL s c).2 = (s.data.toList.head? == some c) := by
  unfold cutL
  split
  · rename_i h; rw [h]; simp
  · rename_i h; symm; rw [beq_eq_false_iff_ne]; exact h
theorem read_any (s : ByteArray) (w : World) : Calls Tryd.prog 15 #[.string s] w (ReadEnd s w) := by
  obtain ⟨rest, minus, hcut⟩ : ∃ r m, cutL s 45 = (r, m) := ⟨_, _, rfl⟩
  have hf := cutL_fst s 45
  have hs := cutL_snd s 45
  rw [hcut] at hf hs
  simp only at hf hs
  have hr : (if minus then s.data.toList.tail else s.data.toList) = rest.data.toList := by
    rw [hs, hf]
    by_cases h : s.data.toList.head? = some 45
    · rw [if_pos h, if_pos (by rw [h]; rfl)]
    · rw [if_neg h, if_neg (by rw [beq_iff_eq]; exact h)]
  have hread : readL s.data.toList = if rest.data.toList = [] ∨ 19 < rest.data.toList.length ∨ (rest.data.toList.head? = some 48 ∧ s.data.toList ≠ [48]) then (0, 10)
      else if rest.data.toList.all isDig = false then (0, 10)
      else if (if minus then 9223372036854775808 else 9223372036854775807) < decVal rest.data.toList then (0, 10)
      else (if minus then -(decVal rest.data.toList : Int) else (decVal rest.data.toList : Int), 0) := by
    unfold readL
    simp only [← hs, hr]
  have hl : rest.data.toList.length = rest.size := by simp
  by_cases h0 : rest.data.toList = []
  · exact read_empty s w rest minus hcut (by rw [ByteArray.toList_eq, h0]; rfl) (by rw [ByteArray.toList_eq, h0]) (by rw [hread, if_pos (.inl h0)])
  have e0 : rest.toList.isEmpty = false := by rw [ByteArray.toList_eq]; cases h : rest.data.toList with | nil => exact absurd h h0 | cons => rfl
  have e1 : ¬ rest.toList = [] := by rw [ByteArray.toList_eq]; exact h0
  have hp : 0 < rest.size := by rw [← hl]; exact List.length_pos_iff.2 h0
  by_cases h1 : rest.size ≤ 19
  · have hh := head_get hp
    by_cases h2 : rest.data.toList.head? = some 48 ∧ s.data.toList ≠ [48]
    · have h3 : rest[0]'hp = 48 := by have := h2.1; rw [hh] at this; exact Option.some.inj this
      exact read_zero s w rest minus hcut e0 e1 hp h1 (by rw [h3]; rfl) (by rw [ByteArray.toList_eq]; simp [h2.2]) (by rw [hread, if_pos (.inr (.inr h2))])
    · refine read_pass s w rest minus hcut e0 e1 hp h1 (fun h3 => ?_) (by rw [Pass, hread, if_neg]; intro h; rcases h with h | h | h; exact h0 h; omega; exact h2 h)
      have h4 : rest[0]'hp = 48 := UInt8.toNat_inj.1 h3
      have h5 : rest.data.toList.head? = some 48 := by rw [hh, h4]
      have h6 : s.data.toList = [48] := Classical.byContradiction fun h => h2 ⟨h5, h⟩
      rw [ByteArray.toList_eq, h6]; rfl
  · exact read_long s w rest minus hcut e0 e1 h1 (by rw [hread, if_pos (.inr (.inl (by omega)))])
def num_Read.f (a0 : ByteArray) : Option (Int × Int) := some (readL a0.data.toList)
theorem num_Read.calls (a0 : ByteArray) (r1 : Int) (r2 : Int) (w : World) (h : num_Read.f a0 = some (r1, r2)) :
    Calls Tryd.prog 15 #[.string a0] w fun e w' => e = .returned (.tuple #[.int .i64 r1, .int .i64 r2]) ∧ Below w.heap.size w w' := by
  have h' : readL a0.data.toList = (r1, r2) := Option.some.inj h
  refine (read_any a0 w).mono ?_
  rintro e w' ⟨rfl, hb⟩
  rw [h']
  exact ⟨rfl, hb⟩
end Go.Proofs.YtlghkomipboflaaDoor
end
section
namespace Go.Proofs.YtlghkomipboflaaDoor.X
open Go.RowKit Go.Proofs.YtlghkomipboflaaDoorW.PrintWords Go.Proofs.YtlghkomipboflaaDoorW.PrintLast Go.Proofs.YtlghkomipboflaaDoorW.PrintMore
attribute [local go_sem] max2_int min2_int max_two min_two max_three min_three max_four min_four
set_option linter.unusedVariables false
set_option linter.unusedSimpArgs false
def stringslite_HasPrefix.f (a0 : ByteArray) (a1 : ByteArray) : Option (Bool) := if (a0.size : Int) ≥ (a1.size : Int) then (if 0 ≤ (a1.size : Int) then (if (a1.size : Int) ≤ (a0.size : Int) then (some ((a0.extract 0 ((a1.size : Int) : Int).toNat).toList == a1.toList)) else (none)) else (none)) else (some false)
set_option maxHeartbeats 8000000 in
set_option maxRecDepth 100000 in
theorem stringslite_HasPrefix.calls (a0 : ByteArray) (a1 : ByteArray) (r : Bool) (w : World) (h : stringslite_HasPrefix.f a0 a1 = some r) :
    Calls Tryd.prog 72 #[.string a0, .string a1] w fun e w' => e = .returned (.bool r) ∧ Drawn0 w w' := by
  have H : (if (a0.size : Int) ≥ (a1.size : Int) then (if 0 ≤ (a1.size : Int) then (if (a1.size : Int) ≤ (a0.size : Int) then (some ((a0.extract 0 ((a1.size : Int) : Int).toNat).toList == a1.toList)) else (none)) else (none)) else (some false)) = some r := h
  clear h
  by_cases c3 : (a0.size : Int) ≥ (a1.size : Int)
  · rw [if_pos c3] at H
    have c3b0 : decide ((a1.size : Int) ≤ (a0.size : Int)) = true := decide_eq_true c3
    have c3b1 : decide (a1.size ≤ a0.size) = true := decide_eq_true (Int.ofNat_le.mp c3)
    clear c3
    by_cases c4 : 0 ≤ (a1.size : Int)
    · rw [if_pos c4] at H
      have c4b0 := eq_true c4
      have c4b1 : decide (0 ≤ (a1.size : Int)) = true := decide_eq_true c4
      clear c4
      by_cases c5 : (a1.size : Int) ≤ (a0.size : Int)
      · rw [if_pos c5] at H
        have c5b0 := eq_true c5
        have c5b1 : decide ((a1.size : Int) ≤ (a0.size : Int)) = true := decide_eq_true c5
        clear c5
        obtain rfl := Option.some.inj H
        go_enter Tryd.func72, Tryd.ntmps72
        go_wp2
        go_ret
        exact ⟨by first | rfl | (simp; done) | (simp [*]; done), by repeat (first | exact Drawn0.refl _ | apply Drawn0.step)⟩
      · rw [if_neg c5] at H
        exact absurd H (by simp)
    · rw [if_neg c4] at H
      exact absurd H (by simp)
  · rw [if_neg c3] at H
    have c3b0 : decide ((a1.size : Int) ≤ (a0.size : Int)) = false := decide_eq_false c3
    have c3b1 : decide (a1.size ≤ a0.size) = false := decide_eq_false (fun h => c3 (Int.ofNat_le.mpr h))
    clear c3
    obtain rfl := Option.some.inj H
    go_enter Tryd.func72, Tryd.ntmps72
    go_wp2
    go_ret
    exact ⟨by first | rfl | (simp; done) | (simp [*]; done), by repeat (first | exact Drawn0.refl _ | apply Drawn0.step)⟩
def stringslite_CutPrefix.f (a0 : ByteArray) (a1 : ByteArray) : Option (ByteArray × Bool) := (stringslite_HasPrefix.f a0 a1).bind fun t240 => (if t240 = true then (if 0 ≤ (a1.size : Int) then (if (a1.size : Int) ≤ (a0.size : Int) then (some (a0.extract ((a1.size : Int) : Int).toNat a0.size, true)) else (none)) else (none)) else (some (a0, false)))
set_option maxHeartbeats 8000000 in
set_option maxRecDepth 100000 in
theorem stringslite_CutPrefix.calls (a0 : ByteArray) (a1 : ByteArray) (r1 : ByteArray) (r2 : Bool) (w : World) (h : stringslite_CutPrefix.f a0 a1 = some (r1, r2)) :
    Calls Tryd.prog 51 #[.string a0, .string a1] w fun e w' => e = .returned (.tuple #[.string r1, .bool r2]) ∧ Drawn0 w w' := by
  have H : ((stringslite_HasPrefix.f a0 a1).bind fun t240 => (if t240 = true then (if 0 ≤ (a1.size : Int) then (if (a1.size : Int) ≤ (a0.size : Int) then (some (a0.extract ((a1.size : Int) : Int).toNat a0.size, true)) else (none)) else (none)) else (some (a0, false)))) = some (r1, r2) := h
  clear h
  replace H := Option.bind_eq_some_iff.mp H
  obtain ⟨t240, A30, H⟩ := H
  replace H : (if t240 = true then (if 0 ≤ (a1.size : Int) then (if (a1.size : Int) ≤ (a0.size : Int) then (some (a0.extract ((a1.size : Int) : Int).toNat a0.size, true)) else (none)) else (none)) else (some (a0, false))) = some (r1, r2) := H
  have A3 := Aside0.mk A30
  clear A30
  by_cases c4 : t240 = true
  · subst c4
    have H1 : (if 0 ≤ (a1.size : Int) then (if (a1.size : Int) ≤ (a0.size : Int) then (some (a0.extract ((a1.size : Int) : Int).toNat a0.size, true)) else (none)) else (none)) = some (r1, r2) := by rw [if_pos rfl] at H; exact H
    clear H
    have H := H1
    clear H1
    by_cases c5 : 0 ≤ (a1.size : Int)
    · rw [if_pos c5] at H
      have c5b0 := eq_true c5
      have c5b1 : decide (0 ≤ (a1.size : Int)) = true := decide_eq_true c5
      clear c5
      by_cases c6 : (a1.size : Int) ≤ (a0.size : Int)
      · rw [if_pos c6] at H
        have c6b0 := eq_true c6
        have c6b1 : decide ((a1.size : Int) ≤ (a0.size : Int)) = true := decide_eq_true c6
        clear c6
        simp only [Option.some.injEq, Prod.mk.injEq] at H
        obtain ⟨rfl, rfl⟩ := H
        go_enter Tryd.func51, Tryd.ntmps51
        go_wp2_with (first | ((with_reducible refine gate_callee (f := 72) rfl ?_); refine goesL_ (some 8) rfl rfl Tryd.func72 (by kernel_rfl) rfl #[.string a0, .string a1] rfl (by (try simp only [List.map_toArray, List.map_cons, List.map_nil]); first | done | rfl | (simp only [List.length_drop, List.length_take]; rfl)) ?_; (with_reducible refine (stringslite_HasPrefix.calls a0 a1 true _ A3.out).mono ?_); rintro e w' ⟨rfl, ⟨nd, rfl⟩⟩; refine ⟨_, rfl, ?_⟩))
        go_ret2
        exact ⟨by first | rfl | (simp; done) | (simp [*]; done), by repeat (first | exact Drawn0.refl _ | apply Drawn0.step)⟩
      · rw [if_neg c6] at H
        exact absurd H (by simp)
    · rw [if_neg c5] at H
      exact absurd H (by simp)
  · replace c4 := Bool.eq_false_iff.mpr c4
    subst c4
    have H1 : (some (a0, false)) = some (r1, r2) := by rw [if_neg (show ¬ (false = true) by decide)] at H; exact H
    clear H
    have H := H1
    clear H1
    simp only [Option.some.injEq, Prod.mk.injEq] at H
    obtain ⟨rfl, rfl⟩ := H
    go_enter Tryd.func51, Tryd.ntmps51
    go_wp2_with (first | ((with_reducible refine gate_callee (f := 72) rfl ?_); refine goesL_ (some 8) rfl rfl Tryd.func72 (by kernel_rfl) rfl #[.string a0, .string a1] rfl (by (try simp only [List.map_toArray, List.map_cons, List.map_nil]); first | done | rfl | (simp only [List.length_drop, List.length_take]; rfl)) ?_; (with_reducible refine (stringslite_HasPrefix.calls a0 a1 false _ A3.out).mono ?_); rintro e w' ⟨rfl, ⟨nd, rfl⟩⟩; refine ⟨_, rfl, ?_⟩))
    go_ret2
    exact ⟨by first | rfl | (simp; done) | (simp [*]; done), by repeat (first | exact Drawn0.refl _ | apply Drawn0.step)⟩
def strings_CutPrefix.f (a0 : ByteArray) (a1 : ByteArray) : Option (ByteArray × Bool) := (stringslite_CutPrefix.f a0 a1).bind fun bt241 => (some (bt241.1, bt241.2))
set_option maxHeartbeats 8000000 in
set_option maxRecDepth 100000 in
theorem strings_CutPrefix.calls (a0 : ByteArray) (a1 : ByteArray) (r1 : ByteArray) (r2 : Bool) (w : World) (h : strings_CutPrefix.f a0 a1 = some (r1, r2)) :
    Calls Tryd.prog 30 #[.string a0, .string a1] w fun e w' => e = .returned (.tuple #[.string r1, .bool r2]) ∧ Drawn0 w w' := by
  have H : ((stringslite_CutPrefix.f a0 a1).bind fun bt241 => (some (bt241.1, bt241.2))) = some (r1, r2) := h
  clear h
  replace H := Option.bind_eq_some_iff.mp H
  obtain ⟨⟨t241, t242⟩, A30, H⟩ := H
  replace H : (some (t241, t242)) = some (r1, r2) := H
  have A3 := Aside0.mk A30
  clear A30
  simp only [Option.some.injEq, Prod.mk.injEq] at H
  obtain ⟨rfl, rfl⟩ := H
  go_enter Tryd.func30, Tryd.ntmps30
  go_wp2_with (first | ((with_reducible refine gate_callee (f := 51) rfl ?_); refine goesL_ (some 8) rfl rfl Tryd.func51 (by kernel_rfl) rfl #[.string a0, .string a1] rfl (by (try simp only [List.map_toArray, List.map_cons, List.map_nil]); first | done | rfl | (simp only [List.length_drop, List.length_take]; rfl)) ?_; (with_reducible refine (stringslite_CutPrefix.calls a0 a1 t241 t242 _ A3.out).mono ?_); rintro e w' ⟨rfl, ⟨nd, rfl⟩⟩; refine ⟨_, rfl, ?_⟩))
  go_ret2
  exact ⟨by first | rfl | (simp; done) | (simp [*]; done), by repeat (first | exact Drawn0.refl _ | apply Drawn0.step)⟩
def num_Small.j0 : Nat → ByteArray → Int → Bool → Option (Int × Int)
  | 0, _, _, _ => none
  | k + 1, x0, x1, x13 => if x13 = true then (some (0, 2)) else ((num_Read.f x0).bind fun bt243 => (if bt243.2 = 0 then (if bt243.1 < 0 then (some (0, 10)) else (if bt243.1 > x1 then (some (0, 10)) else (some (bt243.1, 0)))) else (some (0, 10))))
def num_Small.f (k : Nat) (a0 : ByteArray) (a1 : Int) : Option (Int × Int) := if a1 < 0 then (num_Small.j0 k a0 a1 true) else (num_Small.j0 k a0 a1 (decide (a1 > 1000000)))
set_option maxHeartbeats 8000000 in
set_option maxRecDepth 100000 in
theorem num_Small.calls (k : Nat) (a0 : ByteArray) (a1 : Int) (r1 : Int) (r2 : Int) (w : World) (h : num_Small.f k a0 a1 = some (r1, r2)) :
    Calls Tryd.prog 74 #[.string a0, .int .i64 a1] w fun e w' => e = .returned (.tuple #[.int .i64 r1, .int .i64 r2]) ∧ Below w.heap.size w w' := by
  have HB := Aside0.mk (Below.refl w.heap.size w)
  have H : (if a1 < 0 then (num_Small.j0 k a0 a1 true) else (num_Small.j0 k a0 a1 (decide (a1 > 1000000)))) = some (r1, r2) := h
  clear h
  have HC3 := Aside0.mk H
  clear H
  go_enter Tryd.func74, Tryd.ntmps74
  go_upto_region 1 with (fail)
  go_cut [13] (fun v13 wc => ∃ (kq : Nat) (x13_2 : Bool), v13 = .bool x13_2 ∧ Aside0 (num_Small.j0 kq a0 a1 x13_2 = some (r1, r2)) ∧ Aside0 (kq ≤ k) ∧ Aside0 (Below w.heap.size w wc))
  case first =>
    have H := HC3.out
    clear HC3
    by_cases c4 : a1 < 0
    · rw [if_pos c4] at H
      have c4b0 : decide (a1 < 0) = true := decide_eq_true c4
      clear c4
      (first | rw [c4b0] | (simp only [i64_w, i32_w]; rw [c4b0]) | skip)
      have H' := Aside0.mk H
      clear H
      go_wp2
      go_meet
      case rel => exact ⟨_, (true), (by first | rfl | (simp; done) | (simp [*]; done)), H', ⟨by first | omega | exact Nat.le_refl _⟩, ⟨by repeat (first | (with_reducible first | exact HB.out | apply below_alloc | apply pw_below_drewN | apply below_drew1) | exact HB.out)⟩⟩
    · rw [if_neg c4] at H
      have c4b0 : decide (a1 < 0) = false := decide_eq_false c4
      clear c4
      (first | rw [c4b0] | (simp only [i64_w, i32_w]; rw [c4b0]) | skip)
      have H' := Aside0.mk H
      clear H
      go_wp2
      go_meet
      case rel => exact ⟨_, (decide (a1 > 1000000)), (by first | rfl | (simp; done) | (simp [*]; done)), H', ⟨by first | omega | exact Nat.le_refl _⟩, ⟨by repeat (first | (with_reducible first | exact HB.out | apply below_alloc | apply pw_below_drewN | apply below_drew1) | exact HB.out)⟩⟩
  case rest =>
    clear HC3
    try clear p2
    try clear c4
    try clear c4b0
    obtain ⟨kq, x13_2, rfl, HA, HJ2, HB⟩ := hcut
    cases kq with
    | zero => exact absurd HA.out (by simp [num_Small.j0])
    | succ kj2 =>
      have H := HA.out
      clear HA
      simp only [num_Small.j0] at H
      by_cases c5 : x13_2 = true
      · subst c5
        have H1 : (some (0, 2)) = some (r1, r2) := by rw [if_pos rfl] at H; exact H
        clear H
        have H := H1
        clear H1
        simp only [Option.some.injEq, Prod.mk.injEq] at H
        obtain ⟨rfl, rfl⟩ := H
        go_wp2
        go_ret2
        exact ⟨by first | rfl | (simp [errW_none, errW_some] <;> rfl) | (simp [*, errW_none, errW_some] <;> rfl), by repeat (first | (with_reducible first | exact HB.out | apply below_alloc | apply pw_below_drewN | apply below_drew1) | exact HB.out)⟩
      · replace c5 := Bool.eq_false_iff.mpr c5
        subst c5
        have H1 : ((num_Read.f a0).bind fun bt243 => (if bt243.2 = 0 then (if bt243.1 < 0 then (some (0, 10)) else (if bt243.1 > a1 then (some (0, 10)) else (some (bt243.1, 0)))) else (some (0, 10)))) = some (r1, r2) := by rw [if_neg (show ¬ (false = true) by decide)] at H; exact H
        clear H
        have H := H1
        clear H1
        replace H := Option.bind_eq_some_iff.mp H
        obtain ⟨⟨t243, t244⟩, A60, H⟩ := H
        replace H : (if t244 = 0 then (if t243 < 0 then (some (0, 10)) else (if t243 > a1 then (some (0, 10)) else (some (t243, 0)))) else (some (0, 10))) = some (r1, r2) := H
        have A6 := Aside0.mk A60
        clear A60
        by_cases c7 : t244 = 0
        · rw [if_pos c7] at H
          have c7b0 : (t244 == 0) = true := beq_iff_eq.mpr c7
          have c7b1 : (t244 != 0) = false := bne_eq_false_iff_eq.mpr c7
          clear c7
          by_cases c8 : t243 < 0
          · rw [if_pos c8] at H
            have c8b0 : decide (t243 < 0) = true := decide_eq_true c8
            clear c8
            simp only [Option.some.injEq, Prod.mk.injEq] at H
            obtain ⟨rfl, rfl⟩ := H
            go_wp2_with (first | ((with_reducible refine gate_callee (f := 15) rfl ?_); refine goesL_ (some 16) rfl rfl Tryd.func15 (by kernel_rfl) rfl #[.string a0] rfl (by (try simp only [List.map_toArray, List.map_cons, List.map_nil]); first | done | rfl | (simp only [List.length_drop, List.length_take]; rfl)) ?_; (with_reducible refine (num_Read.calls a0 t243 t244 _ A6.out).mono ?_); rintro e w9 ⟨rfl, hb⟩; refine ⟨_, rfl, ?_⟩; have n0_ := Aside0.mk (below_step (by repeat (first | (with_reducible first | exact HB.out | apply below_alloc | apply pw_below_drewN | apply below_drew1) | exact HB.out)) hb); clear HB; have HB := n0_; clear n0_; (try clear hb); (try clear hb2); (try clear hk); (try clear hi)))
            go_ret2
            exact ⟨by first | rfl | (simp [errW_none, errW_some] <;> rfl) | (simp [*, errW_none, errW_some] <;> rfl), by repeat (first | (with_reducible first | exact HB.out | apply below_alloc | apply pw_below_drewN | apply below_drew1) | exact HB.out)⟩
          · rw [if_neg c8] at H
            have c8b0 : decide (t243 < 0) = false := decide_eq_false c8
            clear c8
            by_cases c10 : t243 > a1
            · rw [if_pos c10] at H
              have c10b0 : decide (a1 < t243) = true := decide_eq_true c10
              clear c10
              simp only [Option.some.injEq, Prod.mk.injEq] at H
              obtain ⟨rfl, rfl⟩ := H
              go_wp2_with (first | ((with_reducible refine gate_callee (f := 15) rfl ?_); refine goesL_ (some 16) rfl rfl Tryd.func15 (by kernel_rfl) rfl #[.string a0] rfl (by (try simp only [List.map_toArray, List.map_cons, List.map_nil]); first | done | rfl | (simp only [List.length_drop, List.length_take]; rfl)) ?_; (with_reducible refine (num_Read.calls a0 t243 t244 _ A6.out).mono ?_); rintro e w11 ⟨rfl, hb⟩; refine ⟨_, rfl, ?_⟩; have n0_ := Aside0.mk (below_step (by repeat (first | (with_reducible first | exact HB.out | apply below_alloc | apply pw_below_drewN | apply below_drew1) | exact HB.out)) hb); clear HB; have HB := n0_; clear n0_; (try clear hb); (try clear hb2); (try clear hk); (try clear hi)))
              go_ret2
              exact ⟨by first | rfl | (simp [errW_none, errW_some] <;> rfl) | (simp [*, errW_none, errW_some] <;> rfl), by repeat (first | (with_reducible first | exact HB.out | apply below_alloc | apply pw_below_drewN | apply below_drew1) | exact HB.out)⟩
            · rw [if_neg c10] at H
              have c10b0 : decide (a1 < t243) = false := decide_eq_false c10
              clear c10
              simp only [Option.some.injEq, Prod.mk.injEq] at H
              obtain ⟨rfl, rfl⟩ := H
              go_wp2_with (first | ((with_reducible refine gate_callee (f := 15) rfl ?_); refine goesL_ (some 16) rfl rfl Tryd.func15 (by kernel_rfl) rfl #[.string a0] rfl (by (try simp only [List.map_toArray, List.map_cons, List.map_nil]); first | done | rfl | (simp only [List.length_drop, List.length_take]; rfl)) ?_; (with_reducible refine (num_Read.calls a0 t243 t244 _ A6.out).mono ?_); rintro e w12 ⟨rfl, hb⟩; refine ⟨_, rfl, ?_⟩; have n0_ := Aside0.mk (below_step (by repeat (first | (with_reducible first | exact HB.out | apply below_alloc | apply pw_below_drewN | apply below_drew1) | exact HB.out)) hb); clear HB; have HB := n0_; clear n0_; (try clear hb); (try clear hb2); (try clear hk); (try clear hi)))
              go_ret2
              exact ⟨by first | rfl | (simp [errW_none, errW_some] <;> rfl) | (simp [*, errW_none, errW_some] <;> rfl), by repeat (first | (with_reducible first | exact HB.out | apply below_alloc | apply pw_below_drewN | apply below_drew1) | exact HB.out)⟩
        · rw [if_neg c7] at H
          have c7b0 : (t244 == 0) = false := beq_eq_false_iff_ne.mpr c7
          have c7b1 : (t244 != 0) = true := bne_iff_ne.mpr c7
          simp only [Option.some.injEq, Prod.mk.injEq] at H
          obtain ⟨rfl, rfl⟩ := H
          go_wp2_with (first | ((with_reducible refine gate_callee (f := 15) rfl ?_); refine goesL_ (some 16) rfl rfl Tryd.func15 (by kernel_rfl) rfl #[.string a0] rfl (by (try simp only [List.map_toArray, List.map_cons, List.map_nil]); first | done | rfl | (simp only [List.length_drop, List.length_take]; rfl)) ?_; (with_reducible refine (num_Read.calls a0 t243 t244 _ A6.out).mono ?_); rintro e w13 ⟨rfl, hb⟩; refine ⟨_, rfl, ?_⟩; have n0_ := Aside0.mk (below_step (by repeat (first | (with_reducible first | exact HB.out | apply below_alloc | apply pw_below_drewN | apply below_drew1) | exact HB.out)) hb); clear HB; have HB := n0_; clear n0_; (try clear hb); (try clear hb2); (try clear hk); (try clear hi)))
          go_ret2
          exact ⟨by first | rfl | (simp [errW_none, errW_some] <;> rfl) | (simp [*, errW_none, errW_some] <;> rfl), by repeat (first | (with_reducible first | exact HB.out | apply below_alloc | apply pw_below_drewN | apply below_drew1) | exact HB.out)⟩
def lex_Mark.f (k : Nat) (a0 : ByteArray) (a1 : Int) : Option (Int × Int) := (strings_CutPrefix.f a0 (strOfNums (([a1] : List Int)))).bind fun bt248 => (if bt248.2 = true then ((num_Small.f k bt248.1 999).bind fun bt250 => (some (bt250.1, bt250.2))) else (some (0, 10)))
set_option maxHeartbeats 8000000 in
set_option maxRecDepth 100000 in
theorem lex_Mark.calls (k : Nat) (a0 : ByteArray) (a1 : Int) (r1 : Int) (r2 : Int) (w : World) (h : lex_Mark.f k a0 a1 = some (r1, r2)) :
    Calls Tryd.prog 73 #[.string a0, .int .u8 a1] w fun e w' => e = .returned (.tuple #[.int .i64 r1, .int .i64 r2]) ∧ Below w.heap.size w w' := by
  have HB := Aside0.mk (Below.refl w.heap.size w)
  have H : ((strings_CutPrefix.f a0 (strOfNums (([a1] : List Int)))).bind fun bt248 => (if bt248.2 = true then ((num_Small.f k bt248.1 999).bind fun bt250 => (some (bt250.1, bt250.2))) else (some (0, 10)))) = some (r1, r2) := h
  clear h
  obtain ⟨y245, hy245⟩ : ∃ y_ : List Int, y_ = (([a1] : List Int)) := ⟨_, rfl⟩
  replace H : ((strings_CutPrefix.f a0 (strOfNums y245)).bind fun bt248 => (if bt248.2 = true then ((num_Small.f k bt248.1 999).bind fun bt250 => (some (bt250.1, bt250.2))) else (some (0, 10)))) = some (r1, r2) := by first | (rw [hy245]; with_reducible exact H) | (have H2_ := (Option.bind_some _ _).symm.trans H; rw [hy245]; with_reducible exact H2_) | (have H2_ := (Option.bind_some _ _).symm.trans H; with_reducible exact H2_) | with_reducible exact H | (rw [hy245]; exact H) | exact H
  have Ny245 := Aside0.mk hy245
  clear hy245
  replace H := Option.bind_eq_some_iff.mp H
  obtain ⟨⟨t248, t249⟩, A30, H⟩ := H
  replace H : (if t249 = true then ((num_Small.f k t248 999).bind fun bt250 => (some (bt250.1, bt250.2))) else (some (0, 10))) = some (r1, r2) := H
  have A3 := Aside0.mk A30
  clear A30
  by_cases c4 : t249 = true
  · subst c4
    have H1 : ((num_Small.f k t248 999).bind fun bt250 => (some (bt250.1, bt250.2))) = some (r1, r2) := by rw [if_pos rfl] at H; exact H
    clear H
    have H := H1
    clear H1
    replace H := Option.bind_eq_some_iff.mp H
    obtain ⟨⟨t250, t251⟩, A50, H⟩ := H
    replace H : (some (t250, t251)) = some (r1, r2) := H
    have A5 := Aside0.mk A50
    clear A50
    simp only [Option.some.injEq, Prod.mk.injEq] at H
    obtain ⟨rfl, rfl⟩ := H
    go_enter Tryd.func73, Tryd.ntmps73
    go_wp2_with (first | ((with_reducible refine gate_dst (N := 11) rfl ?_); refine Kd.R_lit (Kd.int .u8) _ 5 ?hg (N := 11) ?hd (xs := ([a1] : List Int)) (inner := [.int .u8 a1]) (ok := fun _ => True) (okp := fun _ => True) ?hr ?hp (fun _ hk => hk) trivial (Below.refl _ _) (Nat.le_refl _) (by simp) ?_; (case hd => rfl); (case hg => rfl); (case hr => first | (go_simp; done) | (go_simp; rfl)); (case hp => exact (Reps.one (show Kd.M (Kd.int .u8) _ _ _ a1 [.int .u8 a1] from rfl) (Reps.none _ _))); intro v246 w6 ho7 hb hg_ hnew_; clear hg_ hnew_; (first | rw [← Ny245.out] at ho7 | (simp only [Int.reduceToNat] at ho7; rw [← Ny245.out] at ho7)); have n0_ := Aside0.mk (Kd.R_lower ho7 (below_size (by repeat (first | (with_reducible first | exact HB.out | apply below_alloc | apply pw_below_drewN | apply below_drew1) | exact HB.out)))); have n1_ := Aside0.mk (below_step (by repeat (first | (with_reducible first | exact HB.out | apply below_alloc | apply pw_below_drewN | apply below_drew1) | exact HB.out)) hb); clear HB; have HO247 := n0_; have HB := n1_; clear n0_ n1_; clear hb ho7; have hcv8 := own_string (P := Tryd.prog) Tryd.underlying44 Tryd.underlying5 Tryd.underlying9 (Kd.own_of_R HO247.out)) | ((with_reducible refine gate_callee (f := 30) rfl ?_); refine goesL_ (some 13) rfl rfl Tryd.func30 (by kernel_rfl) rfl #[.string a0, .string (strOfNums y245)] rfl (by (try simp only [List.map_toArray, List.map_cons, List.map_nil]); first | done | rfl | (simp only [List.length_drop, List.length_take]; rfl)) ?_; (with_reducible refine (strings_CutPrefix.calls a0 (strOfNums y245) t248 true _ A3.out).mono ?_); rintro e w' ⟨rfl, ⟨nd, rfl⟩⟩; refine ⟨_, rfl, ?_⟩) | ((with_reducible refine gate_callee (f := 74) rfl ?_); refine goesL_ (some 19) rfl rfl Tryd.func74 (by kernel_rfl) rfl #[.string t248, .int .i64 999] rfl (by (try simp only [List.map_toArray, List.map_cons, List.map_nil]); first | done | rfl | (simp only [List.length_drop, List.length_take]; rfl)) ?_; (with_reducible refine (num_Small.calls k t248 999 t250 t251 _ A5.out).mono ?_); rintro e w9 ⟨rfl, hb⟩; refine ⟨_, rfl, ?_⟩; have n0_ := Aside0.mk (Kd.R_below (by (with_reducible repeat (first | apply Kd.R_alloc | apply Kd.R_drewN | apply Kd.R_drew)); exact HO247.out) hb); have n1_ := Aside0.mk (below_step (by repeat (first | (with_reducible first | exact HB.out | apply below_alloc | apply pw_below_drewN | apply below_drew1) | exact HB.out)) hb); clear HO247; clear HB; have HO247 := n0_; have HB := n1_; clear n0_ n1_; (try clear hb); (try clear hb2); (try clear hk); (try clear hi)))
    go_ret2
    exact ⟨by first | rfl | (simp [errW_none, errW_some] <;> rfl) | (simp [*, errW_none, errW_some] <;> rfl), by repeat (first | (with_reducible first | exact HB.out | apply below_alloc | apply pw_below_drewN | apply below_drew1) | exact HB.out)⟩
  · replace c4 := Bool.eq_false_iff.mpr c4
    subst c4
    have H1 : (some (0, 10)) = some (r1, r2) := by rw [if_neg (show ¬ (false = true) by decide)] at H; exact H
    clear H
    have H := H1
    clear H1
    simp only [Option.some.injEq, Prod.mk.injEq] at H
    obtain ⟨rfl, rfl⟩ := H
    go_enter Tryd.func73, Tryd.ntmps73
    go_wp2_with (first | ((with_reducible refine gate_dst (N := 11) rfl ?_); refine Kd.R_lit (Kd.int .u8) _ 5 ?hg (N := 11) ?hd (xs := ([a1] : List Int)) (inner := [.int .u8 a1]) (ok := fun _ => True) (okp := fun _ => True) ?hr ?hp (fun _ hk => hk) trivial (Below.refl _ _) (Nat.le_refl _) (by simp) ?_; (case hd => rfl); (case hg => rfl); (case hr => first | (go_simp; done) | (go_simp; rfl)); (case hp => exact (Reps.one (show Kd.M (Kd.int .u8) _ _ _ a1 [.int .u8 a1] from rfl) (Reps.none _ _))); intro v246 w10 ho11 hb hg_ hnew_; clear hg_ hnew_; (first | rw [← Ny245.out] at ho11 | (simp only [Int.reduceToNat] at ho11; rw [← Ny245.out] at ho11)); have n0_ := Aside0.mk (Kd.R_lower ho11 (below_size (by repeat (first | (with_reducible first | exact HB.out | apply below_alloc | apply pw_below_drewN | apply below_drew1) | exact HB.out)))); have n1_ := Aside0.mk (below_step (by repeat (first | (with_reducible first | exact HB.out | apply below_alloc | apply pw_below_drewN | apply below_drew1) | exact HB.out)) hb); clear HB; have HO247 := n0_; have HB := n1_; clear n0_ n1_; clear hb ho11; have hcv12 := own_string (P := Tryd.prog) Tryd.underlying44 Tryd.underlying5 Tryd.underlying9 (Kd.own_of_R HO247.out)) | ((with_reducible refine gate_callee (f := 30) rfl ?_); refine goesL_ (some 13) rfl rfl Tryd.func30 (by kernel_rfl) rfl #[.string a0, .string (strOfNums y245)] rfl (by (try simp only [List.map_toArray, List.map_cons, List.map_nil]); first | done | rfl | (simp only [List.length_drop, List.length_take]; rfl)) ?_; (with_reducible refine (strings_CutPrefix.calls a0 (strOfNums y245) t248 false _ A3.out).mono ?_); rintro e w' ⟨rfl, ⟨nd, rfl⟩⟩; refine ⟨_, rfl, ?_⟩))
    go_ret2
    exact ⟨by first | rfl | (simp [errW_none, errW_some] <;> rfl) | (simp [*, errW_none, errW_some] <;> rfl), by repeat (first | (with_reducible first | exact HB.out | apply below_alloc | apply pw_below_drewN | apply below_drew1) | exact HB.out)⟩
def types_plain.f (a0_0 : Int) (a0_1 : Int) (a0_2 : Int) (l0_3 : List Int) : Option (Bool) := if a0_0 = 1 then (if a0_1 = 0 then (if a0_2 = 0 then (some ((l0_3.length : Int) == 0)) else (some false)) else (some false)) else (if a0_0 = 2 then (if a0_2 = 0 then (some ((l0_3.length : Int) == 0)) else (some false)) else (if a0_0 = 4 then (if a0_1 = 0 then (if a0_2 = 0 then (some true) else (some false)) else (some false)) else (if a0_0 = 3 then (if a0_2 = 0 then (some true) else (some false)) else (if a0_0 = 5 then (some ((l0_3.length : Int) == 0)) else (some true)))))
set_option maxHeartbeats 8000000 in
set_option maxRecDepth 100000 in
theorem types_plain.calls (a0_0 : Int) (a0_1 : Int) (a0_2 : Int) (A0_3 : Option Addr) (c0_3 : Nat) (l0_3 : List Int) (r : Bool) (w : World) (hr0_3 : Kd.C (Kd.int .i64) w A0_3 l0_3.length l0_3) (hc0_3 : l0_3.length ≤ c0_3) (h : types_plain.f a0_0 a0_1 a0_2 l0_3 = some r) :
    Calls Tryd.prog 56 #[.agg #[.int .u8 a0_0, .int .i64 a0_1, .int .i64 a0_2, .slice A0_3 l0_3.length c0_3]] w fun e w' => e = .returned (.bool r) ∧ Below w.heap.size w w' := by
  have hu41 := Tryd.underlying41
  have HR0_3 := Aside0.mk hr0_3
  have HC0_3 := Aside0.mk hc0_3
  clear hr0_3 hc0_3
  have HB := Aside0.mk (Below.refl w.heap.size w)
  have H : (if a0_0 = 1 then (if a0_1 = 0 then (if a0_2 = 0 then (some ((l0_3.length : Int) == 0)) else (some false)) else (some false)) else (if a0_0 = 2 then (if a0_2 = 0 then (some ((l0_3.length : Int) == 0)) else (some false)) else (if a0_0 = 4 then (if a0_1 = 0 then (if a0_2 = 0 then (some true) else (some false)) else (some false)) else (if a0_0 = 3 then (if a0_2 = 0 then (some true) else (some false)) else (if a0_0 = 5 then (some ((l0_3.length : Int) == 0)) else (some true)))))) = some r := h
  clear h
  by_cases c2 : a0_0 = 1
  · rw [if_pos c2] at H
    have c2b0 : (a0_0 == 1) = true := beq_iff_eq.mpr c2
    have c2b1 : (a0_0 != 1) = false := bne_eq_false_iff_eq.mpr c2
    clear c2
    by_cases c3 : a0_1 = 0
    · rw [if_pos c3] at H
      have c3b0 : (a0_1 == 0) = true := beq_iff_eq.mpr c3
      have c3b1 : (a0_1 != 0) = false := bne_eq_false_iff_eq.mpr c3
      clear c3
      by_cases c4 : a0_2 = 0
      · rw [if_pos c4] at H
        have c4b0 : (a0_2 == 0) = true := beq_iff_eq.mpr c4
        have c4b1 : (a0_2 != 0) = false := bne_eq_false_iff_eq.mpr c4
        clear c4
        obtain rfl := Option.some.inj H
        go_enter Tryd.func56, Tryd.ntmps56
        go_wp2_with (first | ((with_reducible refine gate_dst (N := 1) rfl ?_); refine box_event ?hg (N := 1) ?hd (cs := #[.int .u8 a0_0, .int .i64 a0_1, .int .i64 a0_2, .slice A0_3 l0_3.length c0_3]) (t := 41) ?hr ?_; (case hd => rfl); (case hg => rfl); (case hr => first | (go_simp; done) | (go_simp; rfl)); intro gb252 hg w5 hbox hb; have n0_ := Aside0.mk (below_step (by repeat (first | (with_reducible first | exact HB.out | apply below_alloc | apply pw_below_drewN | apply below_drew1) | exact HB.out)) hb); have n1_ := Aside0.mk (hbox); have n2_ := Aside0.mk ((by rw [hg]; exact (below_size (by repeat (first | (with_reducible first | exact HB.out | apply below_alloc | apply pw_below_drewN | apply below_drew1) | exact HB.out))) : w.heap.size ≤ gb252)); have n3_ := Aside0.mk ((by rw [hg]; exact (below_size (by repeat (first | (with_reducible first | exact HB.out | apply below_alloc | apply pw_below_drewN | apply below_drew1) | exact HB.out))) : w.heap.size ≤ gb252)); clear HB; have HB := n0_; have BK252 := n1_; have GW252 := n2_; have GE252 := n3_; clear n0_ n1_ n2_ n3_; clear hb hbox hg; have hcz6_0 : w5.cell? ⟨gb252, 0, none⟩ = some (.int .u8 a0_0) := (blk_cell BK252.out 0).trans rfl; have hcz6_1 : w5.cell? ⟨gb252, 1, none⟩ = some (.int .i64 a0_1) := (blk_cell BK252.out 1).trans rfl; have hcz6_2 : w5.cell? ⟨gb252, 2, none⟩ = some (.int .i64 a0_2) := (blk_cell BK252.out 2).trans rfl; have hcz6_3 : w5.cell? ⟨gb252, 3, none⟩ = some (.slice A0_3 l0_3.length c0_3) := (blk_cell BK252.out 3).trans rfl; have hfz6_0 := blk_frozen BK252.out 0; have hfz6_1 := blk_frozen BK252.out 1; have hfz6_2 := blk_frozen BK252.out 2; have hfz6_3 := blk_frozen BK252.out 3))
        repeat (go_quiet (first | ((with_reducible refine gate_dst (N := 1) rfl ?_); refine box_event ?hg (N := 1) ?hd (cs := #[.int .u8 a0_0, .int .i64 a0_1, .int .i64 a0_2, .slice A0_3 l0_3.length c0_3]) (t := 41) ?hr ?_; (case hd => rfl); (case hg => rfl); (case hr => first | (go_simp; done) | (go_simp; rfl)); intro gb252 hg w5 hbox hb; have n0_ := Aside0.mk (below_step (by repeat (first | (with_reducible first | exact HB.out | apply below_alloc | apply pw_below_drewN | apply below_drew1) | exact HB.out)) hb); have n1_ := Aside0.mk (hbox); have n2_ := Aside0.mk ((by rw [hg]; exact (below_size (by repeat (first | (with_reducible first | exact HB.out | apply below_alloc | apply pw_below_drewN | apply below_drew1) | exact HB.out))) : w.heap.size ≤ gb252)); have n3_ := Aside0.mk ((by rw [hg]; exact (below_size (by repeat (first | (with_reducible first | exact HB.out | apply below_alloc | apply pw_below_drewN | apply below_drew1) | exact HB.out))) : w.heap.size ≤ gb252)); clear HB; have HB := n0_; have BK252 := n1_; have GW252 := n2_; have GE252 := n3_; clear n0_ n1_ n2_ n3_; clear hb hbox hg; have hcz6_0 : w5.cell? ⟨gb252, 0, none⟩ = some (.int .u8 a0_0) := (blk_cell BK252.out 0).trans rfl; have hcz6_1 : w5.cell? ⟨gb252, 1, none⟩ = some (.int .i64 a0_1) := (blk_cell BK252.out 1).trans rfl; have hcz6_2 : w5.cell? ⟨gb252, 2, none⟩ = some (.int .i64 a0_2) := (blk_cell BK252.out 2).trans rfl; have hcz6_3 : w5.cell? ⟨gb252, 3, none⟩ = some (.slice A0_3 l0_3.length c0_3) := (blk_cell BK252.out 3).trans rfl; have hfz6_0 := blk_frozen BK252.out 0; have hfz6_1 := blk_frozen BK252.out 1; have hfz6_2 := blk_frozen BK252.out 2; have hfz6_3 := blk_frozen BK252.out 3)); try go_wp2_with (first | ((with_reducible refine gate_dst (N := 1) rfl ?_); refine box_event ?hg (N := 1) ?hd (cs := #[.int .u8 a0_0, .int .i64 a0_1, .int .i64 a0_2, .slice A0_3 l0_3.length c0_3]) (t := 41) ?hr ?_; (case hd => rfl); (case hg => rfl); (case hr => first | (go_simp; done) | (go_simp; rfl)); intro gb252 hg w5 hbox hb; have n0_ := Aside0.mk (below_step (by repeat (first | (with_reducible first | exact HB.out | apply below_alloc | apply pw_below_drewN | apply below_drew1) | exact HB.out)) hb); have n1_ := Aside0.mk (hbox); have n2_ := Aside0.mk ((by rw [hg]; exact (below_size (by repeat (first | (with_reducible first | exact HB.out | apply below_alloc | apply pw_below_drewN | apply below_drew1) | exact HB.out))) : w.heap.size ≤ gb252)); have n3_ := Aside0.mk ((by rw [hg]; exact (below_size (by repeat (first | (with_reducible first | exact HB.out | apply below_alloc | apply pw_below_drewN | apply below_drew1) | exact HB.out))) : w.heap.size ≤ gb252)); clear HB; have HB := n0_; have BK252 := n1_; have GW252 := n2_; have GE252 := n3_; clear n0_ n1_ n2_ n3_; clear hb hbox hg; have hcz6_0 : w5.cell? ⟨gb252, 0, none⟩ = some (.int .u8 a0_0) := (blk_cell BK252.out 0).trans rfl; have hcz6_1 : w5.cell? ⟨gb252, 1, none⟩ = some (.int .i64 a0_1) := (blk_cell BK252.out 1).trans rfl; have hcz6_2 : w5.cell? ⟨gb252, 2, none⟩ = some (.int .i64 a0_2) := (blk_cell BK252.out 2).trans rfl; have hcz6_3 : w5.cell? ⟨gb252, 3, none⟩ = some (.slice A0_3 l0_3.length c0_3) := (blk_cell BK252.out 3).trans rfl; have hfz6_0 := blk_frozen BK252.out 0; have hfz6_1 := blk_frozen BK252.out 1; have hfz6_2 := blk_frozen BK252.out 2; have hfz6_3 := blk_frozen BK252.out 3)))
        go_ret
        exact ⟨by first | rfl | (simp [errW_none, errW_some] <;> rfl) | (simp [*, errW_none, errW_some] <;> rfl), by repeat (first | (with_reducible first | exact HB.out | apply below_alloc | apply pw_below_drewN | apply below_drew1 | refine below_set ?_ GE252.out) | exact HB.out)⟩
      · rw [if_neg c4] at H
        have c4b0 : (a0_2 == 0) = false := beq_eq_false_iff_ne.mpr c4
        have c4b1 : (a0_2 != 0) = true := bne_iff_ne.mpr c4
        obtain rfl := Option.some.inj H
        go_enter Tryd.func56, Tryd.ntmps56
        go_wp2_with (first | ((with_reducible refine gate_dst (N := 1) rfl ?_); refine box_event ?hg (N := 1) ?hd (cs := #[.int .u8 a0_0, .int .i64 a0_1, .int .i64 a0_2, .slice A0_3 l0_3.length c0_3]) (t := 41) ?hr ?_; (case hd => rfl); (case hg => rfl); (case hr => first | (go_simp; done) | (go_simp; rfl)); intro gb252 hg w7 hbox hb; have n0_ := Aside0.mk (below_step (by repeat (first | (with_reducible first | exact HB.out | apply below_alloc | apply pw_below_drewN | apply below_drew1) | exact HB.out)) hb); have n1_ := Aside0.mk (hbox); have n2_ := Aside0.mk ((by rw [hg]; exact (below_size (by repeat (first | (with_reducible first | exact HB.out | apply below_alloc | apply pw_below_drewN | apply below_drew1) | exact HB.out))) : w.heap.size ≤ gb252)); have n3_ := Aside0.mk ((by rw [hg]; exact (below_size (by repeat (first | (with_reducible first | exact HB.out | apply below_alloc | apply pw_below_drewN | apply below_drew1) | exact HB.out))) : w.heap.size ≤ gb252)); clear HB; have HB := n0_; have BK252 := n1_; have GW252 := n2_; have GE252 := n3_; clear n0_ n1_ n2_ n3_; clear hb hbox hg; have hcz8_0 : w7.cell? ⟨gb252, 0, none⟩ = some (.int .u8 a0_0) := (blk_cell BK252.out 0).trans rfl; have hcz8_1 : w7.cell? ⟨gb252, 1, none⟩ = some (.int .i64 a0_1) := (blk_cell BK252.out 1).trans rfl; have hcz8_2 : w7.cell? ⟨gb252, 2, none⟩ = some (.int .i64 a0_2) := (blk_cell BK252.out 2).trans rfl; have hcz8_3 : w7.cell? ⟨gb252, 3, none⟩ = some (.slice A0_3 l0_3.length c0_3) := (blk_cell BK252.out 3).trans rfl; have hfz8_0 := blk_frozen BK252.out 0; have hfz8_1 := blk_frozen BK252.out 1; have hfz8_2 := blk_frozen BK252.out 2; have hfz8_3 := blk_frozen BK252.out 3))
        repeat (go_quiet (first | ((with_reducible refine gate_dst (N := 1) rfl ?_); refine box_event ?hg (N := 1) ?hd (cs := #[.int .u8 a0_0, .int .i64 a0_1, .int .i64 a0_2, .slice A0_3 l0_3.length c0_3]) (t := 41) ?hr ?_; (case hd => rfl); (case hg => rfl); (case hr => first | (go_simp; done) | (go_simp; rfl)); intro gb252 hg w7 hbox hb; have n0_ := Aside0.mk (below_step (by repeat (first | (with_reducible first | exact HB.out | apply below_alloc | apply pw_below_drewN | apply below_drew1) | exact HB.out)) hb); have n1_ := Aside0.mk (hbox); have n2_ := Aside0.mk ((by rw [hg]; exact (below_size (by repeat (first | (with_reducible first | exact HB.out | apply below_alloc | apply pw_below_drewN | apply below_drew1) | exact HB.out))) : w.heap.size ≤ gb252)); have n3_ := Aside0.mk ((by rw [hg]; exact (below_size (by repeat (first | (with_reducible first | exact HB.out | apply below_alloc | apply pw_below_drewN | apply below_drew1) | exact HB.out))) : w.heap.size ≤ gb252)); clear HB; have HB := n0_; have BK252 := n1_; have GW252 := n2_; have GE252 := n3_; clear n0_ n1_ n2_ n3_; clear hb hbox hg; have hcz8_0 : w7.cell? ⟨gb252, 0, none⟩ = some (.int .u8 a0_0) := (blk_cell BK252.out 0).trans rfl; have hcz8_1 : w7.cell? ⟨gb252, 1, none⟩ = some (.int .i64 a0_1) := (blk_cell BK252.out 1).trans rfl; have hcz8_2 : w7.cell? ⟨gb252, 2, none⟩ = some (.int .i64 a0_2) := (blk_cell BK252.out 2).trans rfl; have hcz8_3 : w7.cell? ⟨gb252, 3, none⟩ = some (.slice A0_3 l0_3.length c0_3) := (blk_cell BK252.out 3).trans rfl; have hfz8_0 := blk_frozen BK252.out 0; have hfz8_1 := blk_frozen BK252.out 1; have hfz8_2 := blk_frozen BK252.out 2; have hfz8_3 := blk_frozen BK252.out 3)); try go_wp2_with (first | ((with_reducible refine gate_dst (N := 1) rfl ?_); refine box_event ?hg (N := 1) ?hd (cs := #[.int .u8 a0_0, .int .i64 a0_1, .int .i64 a0_2, .slice A0_3 l0_3.length c0_3]) (t := 41) ?hr ?_; (case hd => rfl); (case hg => rfl); (case hr => first | (go_simp; done) | (go_simp; rfl)); intro gb252 hg w7 hbox hb; have n0_ := Aside0.mk (below_step (by repeat (first | (with_reducible first | exact HB.out | apply below_alloc | apply pw_below_drewN | apply below_drew1) | exact HB.out)) hb); have n1_ := Aside0.mk (hbox); have n2_ := Aside0.mk ((by rw [hg]; exact (below_size (by repeat (first | (with_reducible first | exact HB.out | apply below_alloc | apply pw_below_drewN | apply below_drew1) | exact HB.out))) : w.heap.size ≤ gb252)); have n3_ := Aside0.mk ((by rw [hg]; exact (below_size (by repeat (first | (with_reducible first | exact HB.out | apply below_alloc | apply pw_below_drewN | apply below_drew1) | exact HB.out))) : w.heap.size ≤ gb252)); clear HB; have HB := n0_; have BK252 := n1_; have GW252 := n2_; have GE252 := n3_; clear n0_ n1_ n2_ n3_; clear hb hbox hg; have hcz8_0 : w7.cell? ⟨gb252, 0, none⟩ = some (.int .u8 a0_0) := (blk_cell BK252.out 0).trans rfl; have hcz8_1 : w7.cell? ⟨gb252, 1, none⟩ = some (.int .i64 a0_1) := (blk_cell BK252.out 1).trans rfl; have hcz8_2 : w7.cell? ⟨gb252, 2, none⟩ = some (.int .i64 a0_2) := (blk_cell BK252.out 2).trans rfl; have hcz8_3 : w7.cell? ⟨gb252, 3, none⟩ = some (.slice A0_3 l0_3.length c0_3) := (blk_cell BK252.out 3).trans rfl; have hfz8_0 := blk_frozen BK252.out 0; have hfz8_1 := blk_frozen BK252.out 1; have hfz8_2 := blk_frozen BK252.out 2; have hfz8_3 := blk_frozen BK252.out 3)))
        go_ret
        exact ⟨by first | rfl | (simp [errW_none, errW_some] <;> rfl) | (simp [*, errW_none, errW_some] <;> rfl), by repeat (first | (with_reducible first | exact HB.out | apply below_alloc | apply pw_below_drewN | apply below_drew1 | refine below_set ?_ GE252.out) | exact HB.out)⟩
    · rw [if_neg c3] at H
      have c3b0 : (a0_1 == 0) = false := beq_eq_false_iff_ne.mpr c3
      have c3b1 : (a0_1 != 0) = true := bne_iff_ne.mpr c3
      obtain rfl := Option.some.inj H
      go_enter Tryd.func56, Tryd.ntmps56
      go_wp2_with (first | ((with_reducible refine gate_dst (N := 1) rfl ?_); refine box_event ?hg (N := 1) ?hd (cs := #[.int .u8 a0_0, .int .i64 a0_1, .int .i64 a0_2, .slice A0_3 l0_3.length c0_3]) (t := 41) ?hr ?_; (case hd => rfl); (case hg => rfl); (case hr => first | (go_simp; done) | (go_simp; rfl)); intro gb252 hg w9 hbox hb; have n0_ := Aside0.mk (below_step (by repeat (first | (with_reducible first | exact HB.out | apply below_alloc | apply pw_below_drewN | apply below_drew1) | exact HB.out)) hb); have n1_ := Aside0.mk (hbox); have n2_ := Aside0.mk ((by rw [hg]; exact (below_size (by repeat (first | (with_reducible first | exact HB.out | apply below_alloc | apply pw_below_drewN | apply below_drew1) | exact HB.out))) : w.heap.size ≤ gb252)); have n3_ := Aside0.mk ((by rw [hg]; exact (below_size (by repeat (first | (with_reducible first | exact HB.out | apply below_alloc | apply pw_below_drewN | apply below_drew1) | exact HB.out))) : w.heap.size ≤ gb252)); clear HB; have HB := n0_; have BK252 := n1_; have GW252 := n2_; have GE252 := n3_; clear n0_ n1_ n2_ n3_; clear hb hbox hg; have hcz10_0 : w9.cell? ⟨gb252, 0, none⟩ = some (.int .u8 a0_0) := (blk_cell BK252.out 0).trans rfl; have hcz10_1 : w9.cell? ⟨gb252, 1, none⟩ = some (.int .i64 a0_1) := (blk_cell BK252.out 1).trans rfl; have hcz10_2 : w9.cell? ⟨gb252, 2, none⟩ = some (.int .i64 a0_2) := (blk_cell BK252.out 2).trans rfl; have hcz10_3 : w9.cell? ⟨gb252, 3, none⟩ = some (.slice A0_3 l0_3.length c0_3) := (blk_cell BK252.out 3).trans rfl; have hfz10_0 := blk_frozen BK252.out 0; have hfz10_1 := blk_frozen BK252.out 1; have hfz10_2 := blk_frozen BK252.out 2; have hfz10_3 := blk_frozen BK252.out 3))
      repeat (go_quiet (first | ((with_reducible refine gate_dst (N := 1) rfl ?_); refine box_event ?hg (N := 1) ?hd (cs := #[.int .u8 a0_0, .int .i64 a0_1, .int .i64 a0_2, .slice A0_3 l0_3.length c0_3]) (t := 41) ?hr ?_; (case hd => rfl); (case hg => rfl); (case hr => first | (go_simp; done) | (go_simp; rfl)); intro gb252 hg w9 hbox hb; have n0_ := Aside0.mk (below_step (by repeat (first | (with_reducible first | exact HB.out | apply below_alloc | apply pw_below_drewN | apply below_drew1) | exact HB.out)) hb); have n1_ := Aside0.mk (hbox); have n2_ := Aside0.mk ((by rw [hg]; exact (below_size (by repeat (first | (with_reducible first | exact HB.out | apply below_alloc | apply pw_below_drewN | apply below_drew1) | exact HB.out))) : w.heap.size ≤ gb252)); have n3_ := Aside0.mk ((by rw [hg]; exact (below_size (by repeat (first | (with_reducible first | exact HB.out | apply below_alloc | apply pw_below_drewN | apply below_drew1) | exact HB.out))) : w.heap.size ≤ gb252)); clear HB; have HB := n0_; have BK252 := n1_; have GW252 := n2_; have GE252 := n3_; clear n0_ n1_ n2_ n3_; clear hb hbox hg; have hcz10_0 : w9.cell? ⟨gb252, 0, none⟩ = some (.int .u8 a0_0) := (blk_cell BK252.out 0).trans rfl; have hcz10_1 : w9.cell? ⟨gb252, 1, none⟩ = some (.int .i64 a0_1) := (blk_cell BK252.out 1).trans rfl; have hcz10_2 : w9.cell? ⟨gb252, 2, none⟩ = some (.int .i64 a0_2) := (blk_cell BK252.out 2).trans rfl; have hcz10_3 : w9.cell? ⟨gb252, 3, none⟩ = some (.slice A0_3 l0_3.length c0_3) := (blk_cell BK252.out 3).trans rfl; have hfz10_0 := blk_frozen BK252.out 0; have hfz10_1 := blk_frozen BK252.out 1; have hfz10_2 := blk_frozen BK252.out 2; have hfz10_3 := blk_frozen BK252.out 3)); try go_wp2_with (first | ((with_reducible refine gate_dst (N := 1) rfl ?_); refine box_event ?hg (N := 1) ?hd (cs := #[.int .u8 a0_0, .int .i64 a0_1, .int .i64 a0_2, .slice A0_3 l0_3.length c0_3]) (t := 41) ?hr ?_; (case hd => rfl); (case hg => rfl); (case hr => first | (go_simp; done) | (go_simp; rfl)); intro gb252 hg w9 hbox hb; have n0_ := Aside0.mk (below_step (by repeat (first | (with_reducible first | exact HB.out | apply below_alloc | apply pw_below_drewN | apply below_drew1) | exact HB.out)) hb); have n1_ := Aside0.mk (hbox); have n2_ := Aside0.mk ((by rw [hg]; exact (below_size (by repeat (first | (with_reducible first | exact HB.out | apply below_alloc | apply pw_below_drewN | apply below_drew1) | exact HB.out))) : w.heap.size ≤ gb252)); have n3_ := Aside0.mk ((by rw [hg]; exact (below_size (by repeat (first | (with_reducible first | exact HB.out | apply below_alloc | apply pw_below_drewN | apply below_drew1) | exact HB.out))) : w.heap.size ≤ gb252)); clear HB; have HB := n0_; have BK252 := n1_; have GW252 := n2_; have GE252 := n3_; clear n0_ n1_ n2_ n3_; clear hb hbox hg; have hcz10_0 : w9.cell? ⟨gb252, 0, none⟩ = some (.int .u8 a0_0) := (blk_cell BK252.out 0).trans rfl; have hcz10_1 : w9.cell? ⟨gb252, 1, none⟩ = some (.int .i64 a0_1) := (blk_cell BK252.out 1).trans rfl; have hcz10_2 : w9.cell? ⟨gb252, 2, none⟩ = some (.int .i64 a0_2) := (blk_cell BK252.out 2).trans rfl; have hcz10_3 : w9.cell? ⟨gb252, 3, none⟩ = some (.slice A0_3 l0_3.length c0_3) := (blk_cell BK252.out 3).trans rfl; have hfz10_0 := blk_frozen BK252.out 0; have hfz10_1 := blk_frozen BK252.out 1; have hfz10_2 := blk_frozen BK252.out 2; have hfz10_3 := blk_frozen BK252.out 3)))
      go_ret
      exact ⟨by first | rfl | (simp [errW_none, errW_some] <;> rfl) | (simp [*, errW_none, errW_some] <;> rfl), by repeat (first | (with_reducible first | exact HB.out | apply below_alloc | apply pw_below_drewN | apply below_drew1 | refine below_set ?_ GE252.out) | exact HB.out)⟩
  · rw [if_neg c2] at H
    have c2b0 : (a0_0 == 1) = false := beq_eq_false_iff_ne.mpr c2
    have c2b1 : (a0_0 != 1) = true := bne_iff_ne.mpr c2
    by_cases c11 : a0_0 = 2
    · rw [if_pos c11] at H
      have c11b0 : (a0_0 == 2) = true := beq_iff_eq.mpr c11
      have c11b1 : (a0_0 != 2) = false := bne_eq_false_iff_eq.mpr c11
      clear c11
      by_cases c12 : a0_2 = 0
      · rw [if_pos c12] at H
        have c12b0 : (a0_2 == 0) = true := beq_iff_eq.mpr c12
        have c12b1 : (a0_2 != 0) = false := bne_eq_false_iff_eq.mpr c12
        clear c12
        obtain rfl := Option.some.inj H
        go_enter Tryd.func56, Tryd.ntmps56
        go_wp2_with (first | ((with_reducible refine gate_dst (N := 1) rfl ?_); refine box_event ?hg (N := 1) ?hd (cs := #[.int .u8 a0_0, .int .i64 a0_1, .int .i64 a0_2, .slice A0_3 l0_3.length c0_3]) (t := 41) ?hr ?_; (case hd => rfl); (case hg => rfl); (case hr => first | (go_simp; done) | (go_simp; rfl)); intro gb252 hg w13 hbox hb; have n0_ := Aside0.mk (below_step (by repeat (first | (with_reducible first | exact HB.out | apply below_alloc | apply pw_below_drewN | apply below_drew1) | exact HB.out)) hb); have n1_ := Aside0.mk (hbox); have n2_ := Aside0.mk ((by rw [hg]; exact (below_size (by repeat (first | (with_reducible first | exact HB.out | apply below_alloc | apply pw_below_drewN | apply below_drew1) | exact HB.out))) : w.heap.size ≤ gb252)); have n3_ := Aside0.mk ((by rw [hg]; exact (below_size (by repeat (first | (with_reducible first | exact HB.out | apply below_alloc | apply pw_below_drewN | apply below_drew1) | exact HB.out))) : w.heap.size ≤ gb252)); clear HB; have HB := n0_; have BK252 := n1_; have GW252 := n2_; have GE252 := n3_; clear n0_ n1_ n2_ n3_; clear hb hbox hg; have hcz14_0 : w13.cell? ⟨gb252, 0, none⟩ = some (.int .u8 a0_0) := (blk_cell BK252.out 0).trans rfl; have hcz14_1 : w13.cell? ⟨gb252, 1, none⟩ = some (.int .i64 a0_1) := (blk_cell BK252.out 1).trans rfl; have hcz14_2 : w13.cell? ⟨gb252, 2, none⟩ = some (.int .i64 a0_2) := (blk_cell BK252.out 2).trans rfl; have hcz14_3 : w13.cell? ⟨gb252, 3, none⟩ = some (.slice A0_3 l0_3.length c0_3) := (blk_cell BK252.out 3).trans rfl; have hfz14_0 := blk_frozen BK252.out 0; have hfz14_1 := blk_frozen BK252.out 1; have hfz14_2 := blk_frozen BK252.out 2; have hfz14_3 := blk_frozen BK252.out 3))
        repeat (go_quiet (first | ((with_reducible refine gate_dst (N := 1) rfl ?_); refine box_event ?hg (N := 1) ?hd (cs := #[.int .u8 a0_0, .int .i64 a0_1, .int .i64 a0_2, .slice A0_3 l0_3.length c0_3]) (t := 41) ?hr ?_; (case hd => rfl); (case hg => rfl); (case hr => first | (go_simp; done) | (go_simp; rfl)); intro gb252 hg w13 hbox hb; have n0_ := Aside0.mk (below_step (by repeat (first | (with_reducible first | exact HB.out | apply below_alloc | apply pw_below_drewN | apply below_drew1) | exact HB.out)) hb); have n1_ := Aside0.mk (hbox); have n2_ := Aside0.mk ((by rw [hg]; exact (below_size (by repeat (first | (with_reducible first | exact HB.out | apply below_alloc | apply pw_below_drewN | apply below_drew1) | exact HB.out))) : w.heap.size ≤ gb252)); have n3_ := Aside0.mk ((by rw [hg]; exact (below_size (by repeat (first | (with_reducible first | exact HB.out | apply below_alloc | apply pw_below_drewN | apply below_drew1) | exact HB.out))) : w.heap.size ≤ gb252)); clear HB; have HB := n0_; have BK252 := n1_; have GW252 := n2_; have GE252 := n3_; clear n0_ n1_ n2_ n3_; clear hb hbox hg; have hcz14_0 : w13.cell? ⟨gb252, 0, none⟩ = some (.int .u8 a0_0) := (blk_cell BK252.out 0).trans rfl; have hcz14_1 : w13.cell? ⟨gb252, 1, none⟩ = some (.int .i64 a0_1) := (blk_cell BK252.out 1).trans rfl; have hcz14_2 : w13.cell? ⟨gb252, 2, none⟩ = some (.int .i64 a0_2) := (blk_cell BK252.out 2).trans rfl; have hcz14_3 : w13.cell? ⟨gb252, 3, none⟩ = some (.slice A0_3 l0_3.length c0_3) := (blk_cell BK252.out 3).trans rfl; have hfz14_0 := blk_frozen BK252.out 0; have hfz14_1 := blk_frozen BK252.out 1; have hfz14_2 := blk_frozen BK252.out 2; have hfz14_3 := blk_frozen BK252.out 3)); try go_wp2_with (first | ((with_reducible refine gate_dst (N := 1) rfl ?_); refine box_event ?hg (N := 1) ?hd (cs := #[.int .u8 a0_0, .int .i64 a0_1, .int .i64 a0_2, .slice A0_3 l0_3.length c0_3]) (t := 41) ?hr ?_; (case hd => rfl); (case hg => rfl); (case hr => first | (go_simp; done) | (go_simp; rfl)); intro gb252 hg w13 hbox hb; have n0_ := Aside0.mk (below_step (by repeat (first | (with_reducible first | exact HB.out | apply below_alloc | apply pw_below_drewN | apply below_drew1) | exact HB.out)) hb); have n1_ := Aside0.mk (hbox); have n2_ := Aside0.mk ((by rw [hg]; exact (below_size (by repeat (first | (with_reducible first | exact HB.out | apply below_alloc | apply pw_below_drewN | apply below_drew1) | exact HB.out))) : w.heap.size ≤ gb252)); have n3_ := Aside0.mk ((by rw [hg]; exact (below_size (by repeat (first | (with_reducible first | exact HB.out | apply below_alloc | apply pw_below_drewN | apply below_drew1) | exact HB.out))) : w.heap.size ≤ gb252)); clear HB; have HB := n0_; have BK252 := n1_; have GW252 := n2_; have GE252 := n3_; clear n0_ n1_ n2_ n3_; clear hb hbox hg; have hcz14_0 : w13.cell? ⟨gb252, 0, none⟩ = some (.int .u8 a0_0) := (blk_cell BK252.out 0).trans rfl; have hcz14_1 : w13.cell? ⟨gb252, 1, none⟩ = some (.int .i64 a0_1) := (blk_cell BK252.out 1).trans rfl; have hcz14_2 : w13.cell? ⟨gb252, 2, none⟩ = some (.int .i64 a0_2) := (blk_cell BK252.out 2).trans rfl; have hcz14_3 : w13.cell? ⟨gb252, 3, none⟩ = some (.slice A0_3 l0_3.length c0_3) := (blk_cell BK252.out 3).trans rfl; have hfz14_0 := blk_frozen BK252.out 0; have hfz14_1 := blk_frozen BK252.out 1; have hfz14_2 := blk_frozen BK252.out 2; have hfz14_3 := blk_frozen BK252.out 3)))
        go_ret
        exact ⟨by first | rfl | (simp [errW_none, errW_some] <;> rfl) | (simp [*, errW_none, errW_some] <;> rfl), by repeat (first | (with_reducible first | exact HB.out | apply below_alloc | apply pw_below_drewN | apply below_drew1 | refine below_set ?_ GE252.out) | exact HB.out)⟩
      · rw [if_neg c12] at H
        have c12b0 : (a0_2 == 0) = false := beq_eq_false_iff_ne.mpr c12
        have c12b1 : (a0_2 != 0) = true := bne_iff_ne.mpr c12
        obtain rfl := Option.some.inj H
        go_enter Tryd.func56, Tryd.ntmps56
        go_wp2_with (first | ((with_reducible refine gate_dst (N := 1) rfl ?_); refine box_event ?hg (N := 1) ?hd (cs := #[.int .u8 a0_0, .int .i64 a0_1, .int .i64 a0_2, .slice A0_3 l0_3.length c0_3]) (t := 41) ?hr ?_; (case hd => rfl); (case hg => rfl); (case hr => first | (go_simp; done) | (go_simp; rfl)); intro gb252 hg w15 hbox hb; have n0_ := Aside0.mk (below_step (by repeat (first | (with_reducible first | exact HB.out | apply below_alloc | apply pw_below_drewN | apply below_drew1) | exact HB.out)) hb); have n1_ := Aside0.mk (hbox); have n2_ := Aside0.mk ((by rw [hg]; exact (below_size (by repeat (first | (with_reducible first | exact HB.out | apply below_alloc | apply pw_below_drewN | apply below_drew1) | exact HB.out))) : w.heap.size ≤ gb252)); have n3_ := Aside0.mk ((by rw [hg]; exact (below_size (by repeat (first | (with_reducible first | exact HB.out | apply below_alloc | apply pw_below_drewN | apply below_drew1) | exact HB.out))) : w.heap.size ≤ gb252)); clear HB; have HB := n0_; have BK252 := n1_; have GW252 := n2_; have GE252 := n3_; clear n0_ n1_ n2_ n3_; clear hb hbox hg; have hcz16_0 : w15.cell? ⟨gb252, 0, none⟩ = some (.int .u8 a0_0) := (blk_cell BK252.out 0).trans rfl; have hcz16_1 : w15.cell? ⟨gb252, 1, none⟩ = some (.int .i64 a0_1) := (blk_cell BK252.out 1).trans rfl; have hcz16_2 : w15.cell? ⟨gb252, 2, none⟩ = some (.int .i64 a0_2) := (blk_cell BK252.out 2).trans rfl; have hcz16_3 : w15.cell? ⟨gb252, 3, none⟩ = some (.slice A0_3 l0_3.length c0_3) := (blk_cell BK252.out 3).trans rfl; have hfz16_0 := blk_frozen BK252.out 0; have hfz16_1 := blk_frozen BK252.out 1; have hfz16_2 := blk_frozen BK252.out 2; have hfz16_3 := blk_frozen BK252.out 3))
        repeat (go_quiet (first | ((with_reducible refine gate_dst (N := 1) rfl ?_); refine box_event ?hg (N := 1) ?hd (cs := #[.int .u8 a0_0, .int .i64 a0_1, .int .i64 a0_2, .slice A0_3 l0_3.length c0_3]) (t := 41) ?hr ?_; (case hd => rfl); (case hg => rfl); (case hr => first | (go_simp; done) | (go_simp; rfl)); intro gb252 hg w15 hbox hb; have n0_ := Aside0.mk (below_step (by repeat (first | (with_reducible first | exact HB.out | apply below_alloc | apply pw_below_drewN | apply below_drew1) | exact HB.out)) hb); have n1_ := Aside0.mk (hbox); have n2_ := Aside0.mk ((by rw [hg]; exact (below_size (by repeat (first | (with_reducible first | exact HB.out | apply below_alloc | apply pw_below_drewN | apply below_drew1) | exact HB.out))) : w.heap.size ≤ gb252)); have n3_ := Aside0.mk ((by rw [hg]; exact (below_size (by repeat (first | (with_reducible first | exact HB.out | apply below_alloc | apply pw_below_drewN | apply below_drew1) | exact HB.out))) : w.heap.size ≤ gb252)); clear HB; have HB := n0_; have BK252 := n1_; have GW252 := n2_; have GE252 := n3_; clear n0_ n1_ n2_ n3_; clear hb hbox hg; have hcz16_0 : w15.cell? ⟨gb252, 0, none⟩ = some (.int .u8 a0_0) := (blk_cell BK252.out 0).trans rfl; have hcz16_1 : w15.cell? ⟨gb252, 1, none⟩ = some (.int .i64 a0_1) := (blk_cell BK252.out 1).trans rfl; have hcz16_2 : w15.cell? ⟨gb252, 2, none⟩ = some (.int .i64 a0_2) := (blk_cell BK252.out 2).trans rfl; have hcz16_3 : w15.cell? ⟨gb252, 3, none⟩ = some (.slice A0_3 l0_3.length c0_3) := (blk_cell BK252.out 3).trans rfl; have hfz16_0 := blk_frozen BK252.out 0; have hfz16_1 := blk_frozen BK252.out 1; have hfz16_2 := blk_frozen BK252.out 2; have hfz16_3 := blk_frozen BK252.out 3)); try go_wp2_with (first | ((with_reducible refine gate_dst (N := 1) rfl ?_); refine box_event ?hg (N := 1) ?hd (cs := #[.int .u8 a0_0, .int .i64 a0_1, .int .i64 a0_2, .slice A0_3 l0_3.length c0_3]) (t := 41) ?hr ?_; (case hd => rfl); (case hg => rfl); (case hr => first | (go_simp; done) | (go_simp; rfl)); intro gb252 hg w15 hbox hb; have n0_ := Aside0.mk (below_step (by repeat (first | (with_reducible first | exact HB.out | apply below_alloc | apply pw_below_drewN | apply below_drew1) | exact HB.out)) hb); have n1_ := Aside0.mk (hbox); have n2_ := Aside0.mk ((by rw [hg]; exact (below_size (by repeat (first | (with_reducible first | exact HB.out | apply below_alloc | apply pw_below_drewN | apply below_drew1) | exact HB.out))) : w.heap.size ≤ gb252)); have n3_ := Aside0.mk ((by rw [hg]; exact (below_size (by repeat (first | (with_reducible first | exact HB.out | apply below_alloc | apply pw_below_drewN | apply below_drew1) | exact HB.out))) : w.heap.size ≤ gb252)); clear HB; have HB := n0_; have BK252 := n1_; have GW252 := n2_; have GE252 := n3_; clear n0_ n1_ n2_ n3_; clear hb hbox hg; have hcz16_0 : w15.cell? ⟨gb252, 0, none⟩ = some (.int .u8 a0_0) := (blk_cell BK252.out 0).trans rfl; have hcz16_1 : w15.cell? ⟨gb252, 1, none⟩ = some (.int .i64 a0_1) := (blk_cell BK252.out 1).trans rfl; have hcz16_2 : w15.cell? ⟨gb252, 2, none⟩ = some (.int .i64 a0_2) := (blk_cell BK252.out 2).trans rfl; have hcz16_3 : w15.cell? ⟨gb252, 3, none⟩ = some (.slice A0_3 l0_3.length c0_3) := (blk_cell BK252.out 3).trans rfl; have hfz16_0 := blk_frozen BK252.out 0; have hfz16_1 := blk_frozen BK252.out 1; have hfz16_2 := blk_frozen BK252.out 2; have hfz16_3 := blk_frozen BK252.out 3)))
        go_ret
        exact ⟨by first | rfl | (simp [errW_none, errW_some] <;> rfl) | (simp [*, errW_none, errW_some] <;> rfl), by repeat (first | (with_reducible first | exact HB.out | apply below_alloc | apply pw_below_drewN | apply below_drew1 | refine below_set ?_ GE252.out) | exact HB.out)⟩
    · rw [if_neg c11] at H
      have c11b0 : (a0_0 == 2) = false := beq_eq_false_iff_ne.mpr c11
      have c11b1 : (a0_0 != 2) = true := bne_iff_ne.mpr c11
      by_cases c17 : a0_0 = 4
      · rw [if_pos c17] at H
        have c17b0 : (a0_0 == 4) = true := beq_iff_eq.mpr c17
        have c17b1 : (a0_0 != 4) = false := bne_eq_false_iff_eq.mpr c17
        clear c17
        by_cases c18 : a0_1 = 0
        · rw [if_pos c18] at H
          have c18b0 : (a0_1 == 0) = true := beq_iff_eq.mpr c18
          have c18b1 : (a0_1 != 0) = false := bne_eq_false_iff_eq.mpr c18
          clear c18
          by_cases c19 : a0_2 = 0
          · rw [if_pos c19] at H
            have c19b0 : (a0_2 == 0) = true := beq_iff_eq.mpr c19
            have c19b1 : (a0_2 != 0) = false := bne_eq_false_iff_eq.mpr c19
            clear c19
            obtain rfl := Option.some.inj H
            go_enter Tryd.func56, Tryd.ntmps56
            go_wp2_with (first | ((with_reducible refine gate_dst (N := 1) rfl ?_); refine box_event ?hg (N := 1) ?hd (cs := #[.int .u8 a0_0, .int .i64 a0_1, .int .i64 a0_2, .slice A0_3 l0_3.length c0_3]) (t := 41) ?hr ?_; (case hd => rfl); (case hg => rfl); (case hr => first | (go_simp; done) | (go_simp; rfl)); intro gb252 hg w20 hbox hb; have n0_ := Aside0.mk (below_step (by repeat (first | (with_reducible first | exact HB.out | apply below_alloc | apply pw_below_drewN | apply below_drew1) | exact HB.out)) hb); have n1_ := Aside0.mk (hbox); have n2_ := Aside0.mk ((by rw [hg]; exact (below_size (by repeat (first | (with_reducible first | exact HB.out | apply below_alloc | apply pw_below_drewN | apply below_drew1) | exact HB.out))) : w.heap.size ≤ gb252)); have n3_ := Aside0.mk ((by rw [hg]; exact (below_size (by repeat (first | (with_reducible first | exact HB.out | apply below_alloc | apply pw_below_drewN | apply below_drew1) | exact HB.out))) : w.heap.size ≤ gb252)); clear HB; have HB := n0_; have BK252 := n1_; have GW252 := n2_; have GE252 := n3_; clear n0_ n1_ n2_ n3_; clear hb hbox hg; have hcz21_0 : w20.cell? ⟨gb252, 0, none⟩ = some (.int .u8 a0_0) := (blk_cell BK252.out 0).trans rfl; have hcz21_1 : w20.cell? ⟨gb252, 1, none⟩ = some (.int .i64 a0_1) := (blk_cell BK252.out 1).trans rfl; have hcz21_2 : w20.cell? ⟨gb252, 2, none⟩ = some (.int .i64 a0_2) := (blk_cell BK252.out 2).trans rfl; have hcz21_3 : w20.cell? ⟨gb252, 3, none⟩ = some (.slice A0_3 l0_3.length c0_3) := (blk_cell BK252.out 3).trans rfl; have hfz21_0 := blk_frozen BK252.out 0; have hfz21_1 := blk_frozen BK252.out 1; have hfz21_2 := blk_frozen BK252.out 2; have hfz21_3 := blk_frozen BK252.out 3))
            repeat (go_quiet (first | ((with_reducible refine gate_dst (N := 1) rfl ?_); refine box_event ?hg (N := 1) ?hd (cs := #[.int .u8 a0_0, .int .i64 a0_1, .int .i64 a0_2, .slice A0_3 l0_3.length c0_3]) (t := 41) ?hr ?_; (case hd => rfl); (case hg => rfl); (case hr => first | (go_simp; done) | (go_simp; rfl)); intro gb252 hg w20 hbox hb; have n0_ := Aside0.mk (below_step (by repeat (first | (with_reducible first | exact HB.out | apply below_alloc | apply pw_below_drewN | apply below_drew1) | exact HB.out)) hb); have n1_ := Aside0.mk (hbox); have n2_ := Aside0.mk ((by rw [hg]; exact (below_size (by repeat (first | (with_reducible first | exact HB.out | apply below_alloc | apply pw_below_drewN | apply below_drew1) | exact HB.out))) : w.heap.size ≤ gb252)); have n3_ := Aside0.mk ((by rw [hg]; exact (below_size (by repeat (first | (with_reducible first | exact HB.out | apply below_alloc | apply pw_below_drewN | apply below_drew1) | exact HB.out))) : w.heap.size ≤ gb252)); clear HB; have HB := n0_; have BK252 := n1_; have GW252 := n2_; have GE252 := n3_; clear n0_ n1_ n2_ n3_; clear hb hbox hg; have hcz21_0 : w20.cell? ⟨gb252, 0, none⟩ = some (.int .u8 a0_0) := (blk_cell BK252.out 0).trans rfl; have hcz21_1 : w20.cell? ⟨gb252, 1, none⟩ = some (.int .i64 a0_1) := (blk_cell BK252.out 1).trans rfl; have hcz21_2 : w20.cell? ⟨gb252, 2, none⟩ = some (.int .i64 a0_2) := (blk_cell BK252.out 2).trans rfl; have hcz21_3 : w20.cell? ⟨gb252, 3, none⟩ = some (.slice A0_3 l0_3.length c0_3) := (blk_cell BK252.out 3).trans rfl; have hfz21_0 := blk_frozen BK252.out 0; have hfz21_1 := blk_frozen BK252.out 1; have hfz21_2 := blk_frozen BK252.out 2; have hfz21_3 := blk_frozen BK252.out 3)); try go_wp2_with (first | ((with_reducible refine gate_dst (N := 1) rfl ?_); refine box_event ?hg (N := 1) ?hd (cs := #[.int .u8 a0_0, .int .i64 a0_1, .int .i64 a0_2, .slice A0_3 l0_3.length c0_3]) (t := 41) ?hr ?_; (case hd => rfl); (case hg => rfl); (case hr => first | (go_simp; done) | (go_simp; rfl)); intro gb252 hg w20 hbox hb; have n0_ := Aside0.mk (below_step (by repeat (first | (with_reducible first | exact HB.out | apply below_alloc | apply pw_below_drewN | apply below_drew1) | exact HB.out)) hb); have n1_ := Aside0.mk (hbox); have n2_ := Aside0.mk ((by rw [hg]; exact (below_size (by repeat (first | (with_reducible first | exact HB.out | apply below_alloc | apply pw_below_drewN | apply below_drew1) | exact HB.out))) : w.heap.size ≤ gb252)); have n3_ := Aside0.mk ((by rw [hg]; exact (below_size (by repeat (first | (with_reducible first | exact HB.out | apply below_alloc | apply pw_below_drewN | apply below_drew1) | exact HB.out))) : w.heap.size ≤ gb252)); clear HB; have HB := n0_; have BK252 := n1_; have GW252 := n2_; have GE252 := n3_; clear n0_ n1_ n2_ n3_; clear hb hbox hg; have hcz21_0 : w20.cell? ⟨gb252, 0, none⟩ = some (.int .u8 a0_0) := (blk_cell BK252.out 0).trans rfl; have hcz21_1 : w20.cell? ⟨gb252, 1, none⟩ = some (.int .i64 a0_1) := (blk_cell BK252.out 1).trans rfl; have hcz21_2 : w20.cell? ⟨gb252, 2, none⟩ = some (.int .i64 a0_2) := (blk_cell BK252.out 2).trans rfl; have hcz21_3 : w20.cell? ⟨gb252, 3, none⟩ = some (.slice A0_3 l0_3.length c0_3) := (blk_cell BK252.out 3).trans rfl; have hfz21_0 := blk_frozen BK252.out 0; have hfz21_1 := blk_frozen BK252.out 1; have hfz21_2 := blk_frozen BK252.out 2; have hfz21_3 := blk_frozen BK252.out 3)))
            go_ret
            exact ⟨by first | rfl | (simp [errW_none, errW_some] <;> rfl) | (simp [*, errW_none, errW_some] <;> rfl), by repeat (first | (with_reducible first | exact HB.out | apply below_alloc | apply pw_below_drewN | apply below_drew1 | refine below_set ?_ GE252.out) | exact HB.out)⟩
          · rw [if_neg c19] at H
            have c19b0 : (a0_2 == 0) = false := beq_eq_false_iff_ne.mpr c19
            have c19b1 : (a0_2 != 0) = true := bne_iff_ne.mpr c19
            obtain rfl := Option.some.inj H
            go_enter Tryd.func56, Tryd.ntmps56
            go_wp2_with (first | ((with_reducible refine gate_dst (N := 1) rfl ?_); refine box_event ?hg (N := 1) ?hd (cs := #[.int .u8 a0_0, .int .i64 a0_1, .int .i64 a0_2, .slice A0_3 l0_3.length c0_3]) (t := 41) ?hr ?_; (case hd => rfl); (case hg => rfl); (case hr => first | (go_simp; done) | (go_simp; rfl)); intro gb252 hg w22 hbox hb; have n0_ := Aside0.mk (below_step (by repeat (first | (with_reducible first | exact HB.out | apply below_alloc | apply pw_below_drewN | apply below_drew1) | exact HB.out)) hb); have n1_ := Aside0.mk (hbox); have n2_ := Aside0.mk ((by rw [hg]; exact (below_size (by repeat (first | (with_reducible first | exact HB.out | apply below_alloc | apply pw_below_drewN | apply below_drew1) | exact HB.out))) : w.heap.size ≤ gb252)); have n3_ := Aside0.mk ((by rw [hg]; exact (below_size (by repeat (first | (with_reducible first | exact HB.out | apply below_alloc | apply pw_below_drewN | apply below_drew1) | exact HB.out))) : w.heap.size ≤ gb252)); clear HB; have HB := n0_; have BK252 := n1_; have GW252 := n2_; have GE252 := n3_; clear n0_ n1_ n2_ n3_; clear hb hbox hg; have hcz23_0 : w22.cell? ⟨gb252, 0, none⟩ = some (.int .u8 a0_0) := (blk_cell BK252.out 0).trans rfl; have hcz23_1 : w22.cell? ⟨gb252, 1, none⟩ = some (.int .i64 a0_1) := (blk_cell BK252.out 1).trans rfl; have hcz23_2 : w22.cell? ⟨gb252, 2, none⟩ = some (.int .i64 a0_2) := (blk_cell BK252.out 2).trans rfl; have hcz23_3 : w22.cell? ⟨gb252, 3, none⟩ = some (.slice A0_3 l0_3.length c0_3) := (blk_cell BK252.out 3).trans rfl; have hfz23_0 := blk_frozen BK252.out 0; have hfz23_1 := blk_frozen BK252.out 1; have hfz23_2 := blk_frozen BK252.out 2; have hfz23_3 := blk_frozen BK252.out 3))
            repeat (go_quiet (first | ((with_reducible refine gate_dst (N := 1) rfl ?_); refine box_event ?hg (N := 1) ?hd (cs := #[.int .u8 a0_0, .int .i64 a0_1, .int .i64 a0_2, .slice A0_3 l0_3.length c0_3]) (t := 41) ?hr ?_; (case hd => rfl); (case hg => rfl); (case hr => first | (go_simp; done) | (go_simp; rfl)); intro gb252 hg w22 hbox hb; have n0_ := Aside0.mk (below_step (by repeat (first | (with_reducible first | exact HB.out | apply below_alloc | apply pw_below_drewN | apply below_drew1) | exact HB.out)) hb); have n1_ := Aside0.mk (hbox); have n2_ := Aside0.mk ((by rw [hg]; exact (below_size (by repeat (first | (with_reducible first | exact HB.out | apply below_alloc | apply pw_below_drewN | apply below_drew1) | exact HB.out))) : w.heap.size ≤ gb252)); have n3_ := Aside0.mk ((by rw [hg]; exact (below_size (by repeat (first | (with_reducible first | exact HB.out | apply below_alloc | apply pw_below_drewN | apply below_drew1) | exact HB.out))) : w.heap.size ≤ gb252)); clear HB; have HB := n0_; have BK252 := n1_; have GW252 := n2_; have GE252 := n3_; clear n0_ n1_ n2_ n3_; clear hb hbox hg; have hcz23_0 : w22.cell? ⟨gb252, 0, none⟩ = some (.int .u8 a0_0) := (blk_cell BK252.out 0).trans rfl; have hcz23_1 : w22.cell? ⟨gb252, 1, none⟩ = some (.int .i64 a0_1) := (blk_cell BK252.out 1).trans rfl; have hcz23_2 : w22.cell? ⟨gb252, 2, none⟩ = some (.int .i64 a0_2) := (blk_cell BK252.out 2).trans rfl; have hcz23_3 : w22.cell? ⟨gb252, 3, none⟩ = some (.slice A0_3 l0_3.length c0_3) := (blk_cell BK252.out 3).trans rfl; have hfz23_0 := blk_frozen BK252.out 0; have hfz23_1 := blk_frozen BK252.out 1; have hfz23_2 := blk_frozen BK252.out 2; have hfz23_3 := blk_frozen BK252.out 3)); try go_wp2_with (first | ((with_reducible refine gate_dst (N := 1) rfl ?_); refine box_event ?hg (N := 1) ?hd (cs := #[.int .u8 a0_0, .int .i64 a0_1, .int .i64 a0_2, .slice A0_3 l0_3.length c0_3]) (t := 41) ?hr ?_; (case hd => rfl); (case hg => rfl); (case hr => first | (go_simp; done) | (go_simp; rfl)); intro gb252 hg w22 hbox hb; have n0_ := Aside0.mk (below_step (by repeat (first | (with_reducible first | exact HB.out | apply below_alloc | apply pw_below_drewN | apply below_drew1) | exact HB.out)) hb); have n1_ := Aside0.mk (hbox); have n2_ := Aside0.mk ((by rw [hg]; exact (below_size (by repeat (first | (with_reducible first | exact HB.out | apply below_alloc | apply pw_below_drewN | apply below_drew1) | exact HB.out))) : w.heap.size ≤ gb252)); have n3_ := Aside0.mk ((by rw [hg]; exact (below_size (by repeat (first | (with_reducible first | exact HB.out | apply below_alloc | apply pw_below_drewN | apply below_drew1) | exact HB.out))) : w.heap.size ≤ gb252)); clear HB; have HB := n0_; have BK252 := n1_; have GW252 := n2_; have GE252 := n3_; clear n0_ n1_ n2_ n3_; clear hb hbox hg; have hcz23_0 : w22.cell? ⟨gb252, 0, none⟩ = some (.int .u8 a0_0) := (blk_cell BK252.out 0).trans rfl; have hcz23_1 : w22.cell? ⟨gb252, 1, none⟩ = some (.int .i64 a0_1) := (blk_cell BK252.out 1).trans rfl; have hcz23_2 : w22.cell? ⟨gb252, 2, none⟩ = some (.int .i64 a0_2) := (blk_cell BK252.out 2).trans rfl; have hcz23_3 : w22.cell? ⟨gb252, 3, none⟩ = some (.slice A0_3 l0_3.length c0_3) := (blk_cell BK252.out 3).trans rfl; have hfz23_0 := blk_frozen BK252.out 0; have hfz23_1 := blk_frozen BK252.out 1; have hfz23_2 := blk_frozen BK252.out 2; have hfz23_3 := blk_frozen BK252.out 3)))
            go_ret
            exact ⟨by first | rfl | (simp [errW_none, errW_some] <;> rfl) | (simp [*, errW_none, errW_some] <;> rfl), by repeat (first | (with_reducible first | exact HB.out | apply below_alloc | apply pw_below_drewN | apply below_drew1 | refine below_set ?_ GE252.out) | exact HB.out)⟩
        · rw [if_neg c18] at H
          have c18b0 : (a0_1 == 0) = false := beq_eq_false_iff_ne.mpr c18
          have c18b1 : (a0_1 != 0) = true := bne_iff_ne.mpr c18
          obtain rfl := Option.some.inj H
          go_enter Tryd.func56, Tryd.ntmps56
          go_wp2_with (first | ((with_reducible refine gate_dst (N := 1) rfl ?_); refine box_event ?hg (N := 1) ?hd (cs := #[.int .u8 a0_0, .int .i64 a0_1, .int .i64 a0_2, .slice A0_3 l0_3.length c0_3]) (t := 41) ?hr ?_; (case hd => rfl); (case hg => rfl); (case hr => first | (go_simp; done) | (go_simp; rfl)); intro gb252 hg w24 hbox hb; have n0_ := Aside0.mk (below_step (by repeat (first | (with_reducible first | exact HB.out | apply below_alloc | apply pw_below_drewN | apply below_drew1) | exact HB.out)) hb); have n1_ := Aside0.mk (hbox); have n2_ := Aside0.mk ((by rw [hg]; exact (below_size (by repeat (first | (with_reducible first | exact HB.out | apply below_alloc | apply pw_below_drewN | apply below_drew1) | exact HB.out))) : w.heap.size ≤ gb252)); have n3_ := Aside0.mk ((by rw [hg]; exact (below_size (by repeat (first | (with_reducible first | exact HB.out | apply below_alloc | apply pw_below_drewN | apply below_drew1) | exact HB.out))) : w.heap.size ≤ gb252)); clear HB; have HB := n0_; have BK252 := n1_; have GW252 := n2_; have GE252 := n3_; clear n0_ n1_ n2_ n3_; clear hb hbox hg; have hcz25_0 : w24.cell? ⟨gb252, 0, none⟩ = some (.int .u8 a0_0) := (blk_cell BK252.out 0).trans rfl; have hcz25_1 : w24.cell? ⟨gb252, 1, none⟩ = some (.int .i64 a0_1) := (blk_cell BK252.out 1).trans rfl; have hcz25_2 : w24.cell? ⟨gb252, 2, none⟩ = some (.int .i64 a0_2) := (blk_cell BK252.out 2).trans rfl; have hcz25_3 : w24.cell? ⟨gb252, 3, none⟩ = some (.slice A0_3 l0_3.length c0_3) := (blk_cell BK252.out 3).trans rfl; have hfz25_0 := blk_frozen BK252.out 0; have hfz25_1 := blk_frozen BK252.out 1; have hfz25_2 := blk_frozen BK252.out 2; have hfz25_3 := blk_frozen BK252.out 3))
          repeat (go_quiet (first | ((with_reducible refine gate_dst (N := 1) rfl ?_); refine box_event ?hg (N := 1) ?hd (cs := #[.int .u8 a0_0, .int .i64 a0_1, .int .i64 a0_2, .slice A0_3 l0_3.length c0_3]) (t := 41) ?hr ?_; (case hd => rfl); (case hg => rfl); (case hr => first | (go_simp; done) | (go_simp; rfl)); intro gb252 hg w24 hbox hb; have n0_ := Aside0.mk (below_step (by repeat (first | (with_reducible first | exact HB.out | apply below_alloc | apply pw_below_drewN | apply below_drew1) | exact HB.out)) hb); have n1_ := Aside0.mk (hbox); have n2_ := Aside0.mk ((by rw [hg]; exact (below_size (by repeat (first | (with_reducible first | exact HB.out | apply below_alloc | apply pw_below_drewN | apply below_drew1) | exact HB.out))) : w.heap.size ≤ gb252)); have n3_ := Aside0.mk ((by rw [hg]; exact (below_size (by repeat (first | (with_reducible first | exact HB.out | apply below_alloc | apply pw_below_drewN | apply below_drew1) | exact HB.out))) : w.heap.size ≤ gb252)); clear HB; have HB := n0_; have BK252 := n1_; have GW252 := n2_; have GE252 := n3_; clear n0_ n1_ n2_ n3_; clear hb hbox hg; have hcz25_0 : w24.cell? ⟨gb252, 0, none⟩ = some (.int .u8 a0_0) := (blk_cell BK252.out 0).trans rfl; have hcz25_1 : w24.cell? ⟨gb252, 1, none⟩ = some (.int .i64 a0_1) := (blk_cell BK252.out 1).trans rfl; have hcz25_2 : w24.cell? ⟨gb252, 2, none⟩ = some (.int .i64 a0_2) := (blk_cell BK252.out 2).trans rfl; have hcz25_3 : w24.cell? ⟨gb252, 3, none⟩ = some (.slice A0_3 l0_3.length c0_3) := (blk_cell BK252.out 3).trans rfl; have hfz25_0 := blk_frozen BK252.out 0; have hfz25_1 := blk_frozen BK252.out 1; have hfz25_2 := blk_frozen BK252.out 2; have hfz25_3 := blk_frozen BK252.out 3)); try go_wp2_with (first | ((with_reducible refine gate_dst (N := 1) rfl ?_); refine box_event ?hg (N := 1) ?hd (cs := #[.int .u8 a0_0, .int .i64 a0_1, .int .i64 a0_2, .slice A0_3 l0_3.length c0_3]) (t := 41) ?hr ?_; (case hd => rfl); (case hg => rfl); (case hr => first | (go_simp; done) | (go_simp; rfl)); intro gb252 hg w24 hbox hb; have n0_ := Aside0.mk (below_step (by repeat (first | (with_reducible first | exact HB.out | apply below_alloc | apply pw_below_drewN | apply below_drew1) | exact HB.out)) hb); have n1_ := Aside0.mk (hbox); have n2_ := Aside0.mk ((by rw [hg]; exact (below_size (by repeat (first | (with_reducible first | exact HB.out | apply below_alloc | apply pw_below_drewN | apply below_drew1) | exact HB.out))) : w.heap.size ≤ gb252)); have n3_ := Aside0.mk ((by rw [hg]; exact (below_size (by repeat (first | (with_reducible first | exact HB.out | apply below_alloc | apply pw_below_drewN | apply below_drew1) | exact HB.out))) : w.heap.size ≤ gb252)); clear HB; have HB := n0_; have BK252 := n1_; have GW252 := n2_; have GE252 := n3_; clear n0_ n1_ n2_ n3_; clear hb hbox hg; have hcz25_0 : w24.cell? ⟨gb252, 0, none⟩ = some (.int .u8 a0_0) := (blk_cell BK252.out 0).trans rfl; have hcz25_1 : w24.cell? ⟨gb252, 1, none⟩ = some (.int .i64 a0_1) := (blk_cell BK252.out 1).trans rfl; have hcz25_2 : w24.cell? ⟨gb252, 2, none⟩ = some (.int .i64 a0_2) := (blk_cell BK252.out 2).trans rfl; have hcz25_3 : w24.cell? ⟨gb252, 3, none⟩ = some (.slice A0_3 l0_3.length c0_3) := (blk_cell BK252.out 3).trans rfl; have hfz25_0 := blk_frozen BK252.out 0; have hfz25_1 := blk_frozen BK252.out 1; have hfz25_2 := blk_frozen BK252.out 2; have hfz25_3 := blk_frozen BK252.out 3)))
          go_ret
          exact ⟨by first | rfl | (simp [errW_none, errW_some] <;> rfl) | (simp [*, errW_none, errW_some] <;> rfl), by repeat (first | (with_reducible first | exact HB.out | apply below_alloc | apply pw_below_drewN | apply below_drew1 | refine below_set ?_ GE252.out) | exact HB.out)⟩
      · rw [if_neg c17] at H
        have c17b0 : (a0_0 == 4) = false := beq_eq_false_iff_ne.mpr c17
        have c17b1 : (a0_0 != 4) = true := bne_iff_ne.mpr c17
        by_cases c26 : a0_0 = 3
        · rw [if_pos c26] at H
          have c26b0 : (a0_0 == 3) = true := beq_iff_eq.mpr c26
          have c26b1 : (a0_0 != 3) = false := bne_eq_false_iff_eq.mpr c26
          clear c26
          by_cases c27 : a0_2 = 0
          · rw [if_pos c27] at H
            have c27b0 : (a0_2 == 0) = true := beq_iff_eq.mpr c27
            have c27b1 : (a0_2 != 0) = false := bne_eq_false_iff_eq.mpr c27
            clear c27
            obtain rfl := Option.some.inj H
            go_enter Tryd.func56, Tryd.ntmps56
            go_wp2_with (first | ((with_reducible refine gate_dst (N := 1) rfl ?_); refine box_event ?hg (N := 1) ?hd (cs := #[.int .u8 a0_0, .int .i64 a0_1, .int .i64 a0_2, .slice A0_3 l0_3.length c0_3]) (t := 41) ?hr ?_; (case hd => rfl); (case hg => rfl); (case hr => first | (go_simp; done) | (go_simp; rfl)); intro gb252 hg w28 hbox hb; have n0_ := Aside0.mk (below_step (by repeat (first | (with_reducible first | exact HB.out | apply below_alloc | apply pw_below_drewN | apply below_drew1) | exact HB.out)) hb); have n1_ := Aside0.mk (hbox); have n2_ := Aside0.mk ((by rw [hg]; exact (below_size (by repeat (first | (with_reducible first | exact HB.out | apply below_alloc | apply pw_below_drewN | apply below_drew1) | exact HB.out))) : w.heap.size ≤ gb252)); have n3_ := Aside0.mk ((by rw [hg]; exact (below_size (by repeat (first | (with_reducible first | exact HB.out | apply below_alloc | apply pw_below_drewN | apply below_drew1) | exact HB.out))) : w.heap.size ≤ gb252)); clear HB; have HB := n0_; have BK252 := n1_; have GW252 := n2_; have GE252 := n3_; clear n0_ n1_ n2_ n3_; clear hb hbox hg; have hcz29_0 : w28.cell? ⟨gb252, 0, none⟩ = some (.int .u8 a0_0) := (blk_cell BK252.out 0).trans rfl; have hcz29_1 : w28.cell? ⟨gb252, 1, none⟩ = some (.int .i64 a0_1) := (blk_cell BK252.out 1).trans rfl; have hcz29_2 : w28.cell? ⟨gb252, 2, none⟩ = some (.int .i64 a0_2) := (blk_cell BK252.out 2).trans rfl; have hcz29_3 : w28.cell? ⟨gb252, 3, none⟩ = some (.slice A0_3 l0_3.length c0_3) := (blk_cell BK252.out 3).trans rfl; have hfz29_0 := blk_frozen BK252.out 0; have hfz29_1 := blk_frozen BK252.out 1; have hfz29_2 := blk_frozen BK252.out 2; have hfz29_3 := blk_frozen BK252.out 3))
            repeat (go_quiet (first | ((with_reducible refine gate_dst (N := 1) rfl ?_); refine box_event ?hg (N := 1) ?hd (cs := #[.int .u8 a0_0, .int .i64 a0_1, .int .i64 a0_2, .slice A0_3 l0_3.length c0_3]) (t := 41) ?hr ?_; (case hd => rfl); (case hg => rfl); (case hr => first | (go_simp; done) | (go_simp; rfl)); intro gb252 hg w28 hbox hb; have n0_ := Aside0.mk (below_step (by repeat (first | (with_reducible first | exact HB.out | apply below_alloc | apply pw_below_drewN | apply below_drew1) | exact HB.out)) hb); have n1_ := Aside0.mk (hbox); have n2_ := Aside0.mk ((by rw [hg]; exact (below_size (by repeat (first | (with_reducible first | exact HB.out | apply below_alloc | apply pw_below_drewN | apply below_drew1) | exact HB.out))) : w.heap.size ≤ gb252)); have n3_ := Aside0.mk ((by rw [hg]; exact (below_size (by repeat (first | (with_reducible first | exact HB.out | apply below_alloc | apply pw_below_drewN | apply below_drew1) | exact HB.out))) : w.heap.size ≤ gb252)); clear HB; have HB := n0_; have BK252 := n1_; have GW252 := n2_; have GE252 := n3_; clear n0_ n1_ n2_ n3_; clear hb hbox hg; have hcz29_0 : w28.cell? ⟨gb252, 0, none⟩ = some (.int .u8 a0_0) := (blk_cell BK252.out 0).trans rfl; have hcz29_1 : w28.cell? ⟨gb252, 1, none⟩ = some (.int .i64 a0_1) := (blk_cell BK252.out 1).trans rfl; have hcz29_2 : w28.cell? ⟨gb252, 2, none⟩ = some (.int .i64 a0_2) := (blk_cell BK252.out 2).trans rfl; have hcz29_3 : w28.cell? ⟨gb252, 3, none⟩ = some (.slice A0_3 l0_3.length c0_3) := (blk_cell BK252.out 3).trans rfl; have hfz29_0 := blk_frozen BK252.out 0; have hfz29_1 := blk_frozen BK252.out 1; have hfz29_2 := blk_frozen BK252.out 2; have hfz29_3 := blk_frozen BK252.out 3)); try go_wp2_with (first | ((with_reducible refine gate_dst (N := 1) rfl ?_); refine box_event ?hg (N := 1) ?hd (cs := #[.int .u8 a0_0, .int .i64 a0_1, .int .i64 a0_2, .slice A0_3 l0_3.length c0_3]) (t := 41) ?hr ?_; (case hd => rfl); (case hg => rfl); (case hr => first | (go_simp; done) | (go_simp; rfl)); intro gb252 hg w28 hbox hb; have n0_ := Aside0.mk (below_step (by repeat (first | (with_reducible first | exact HB.out | apply below_alloc | apply pw_below_drewN | apply below_drew1) | exact HB.out)) hb); have n1_ := Aside0.mk (hbox); have n2_ := Aside0.mk ((by rw [hg]; exact (below_size (by repeat (first | (with_reducible first | exact HB.out | apply below_alloc | apply pw_below_drewN | apply below_drew1) | exact HB.out))) : w.heap.size ≤ gb252)); have n3_ := Aside0.mk ((by rw [hg]; exact (below_size (by repeat (first | (with_reducible first | exact HB.out | apply below_alloc | apply pw_below_drewN | apply below_drew1) | exact HB.out))) : w.heap.size ≤ gb252)); clear HB; have HB := n0_; have BK252 := n1_; have GW252 := n2_; have GE252 := n3_; clear n0_ n1_ n2_ n3_; clear hb hbox hg; have hcz29_0 : w28.cell? ⟨gb252, 0, none⟩ = some (.int .u8 a0_0) := (blk_cell BK252.out 0).trans rfl; have hcz29_1 : w28.cell? ⟨gb252, 1, none⟩ = some (.int .i64 a0_1) := (blk_cell BK252.out 1).trans rfl; have hcz29_2 : w28.cell? ⟨gb252, 2, none⟩ = some (.int .i64 a0_2) := (blk_cell BK252.out 2).trans rfl; have hcz29_3 : w28.cell? ⟨gb252, 3, none⟩ = some (.slice A0_3 l0_3.length c0_3) := (blk_cell BK252.out 3).trans rfl; have hfz29_0 := blk_frozen BK252.out 0; have hfz29_1 := blk_frozen BK252.out 1; have hfz29_2 := blk_frozen BK252.out 2; have hfz29_3 := blk_frozen BK252.out 3)))
            go_ret
            exact ⟨by first | rfl | (simp [errW_none, errW_some] <;> rfl) | (simp [*, errW_none, errW_some] <;> rfl), by repeat (first | (with_reducible first | exact HB.out | apply below_alloc | apply pw_below_drewN | apply below_drew1 | refine below_set ?_ GE252.out) | exact HB.out)⟩
          · rw [if_neg c27] at H
            have c27b0 : (a0_2 == 0) = false := beq_eq_false_iff_ne.mpr c27
            have c27b1 : (a0_2 != 0) = true := bne_iff_ne.mpr c27
            obtain rfl := Option.some.inj H
            go_enter Tryd.func56, Tryd.ntmps56
            go_wp2_with (first | ((with_reducible refine gate_dst (N := 1) rfl ?_); refine box_event ?hg (N := 1) ?hd (cs := #[.int .u8 a0_0, .int .i64 a0_1, .int .i64 a0_2, .slice A0_3 l0_3.length c0_3]) (t := 41) ?hr ?_; (case hd => rfl); (case hg => rfl); (case hr => first | (go_simp; done) | (go_simp; rfl)); intro gb252 hg w30 hbox hb; have n0_ := Aside0.mk (below_step (by repeat (first | (with_reducible first | exact HB.out | apply below_alloc | apply pw_below_drewN | apply below_drew1) | exact HB.out)) hb); have n1_ := Aside0.mk (hbox); have n2_ := Aside0.mk ((by rw [hg]; exact (below_size (by repeat (first | (with_reducible first | exact HB.out | apply below_alloc | apply pw_below_drewN | apply below_drew1) | exact HB.out))) : w.heap.size ≤ gb252)); have n3_ := Aside0.mk ((by rw [hg]; exact (below_size (by repeat (first | (with_reducible first | exact HB.out | apply below_alloc | apply pw_below_drewN | apply below_drew1) | exact HB.out))) : w.heap.size ≤ gb252)); clear HB; have HB := n0_; have BK252 := n1_; have GW252 := n2_; have GE252 := n3_; clear n0_ n1_ n2_ n3_; clear hb hbox hg; have hcz31_0 : w30.cell? ⟨gb252, 0, none⟩ = some (.int .u8 a0_0) := (blk_cell BK252.out 0).trans rfl; have hcz31_1 : w30.cell? ⟨gb252, 1, none⟩ = some (.int .i64 a0_1) := (blk_cell BK252.out 1).trans rfl; have hcz31_2 : w30.cell? ⟨gb252, 2, none⟩ = some (.int .i64 a0_2) := (blk_cell BK252.out 2).trans rfl; have hcz31_3 : w30.cell? ⟨gb252, 3, none⟩ = some (.slice A0_3 l0_3.length c0_3) := (blk_cell BK252.out 3).trans rfl; have hfz31_0 := blk_frozen BK252.out 0; have hfz31_1 := blk_frozen BK252.out 1; have hfz31_2 := blk_frozen BK252.out 2; have hfz31_3 := blk_frozen BK252.out 3))
            repeat (go_quiet (first | ((with_reducible refine gate_dst (N := 1) rfl ?_); refine box_event ?hg (N := 1) ?hd (cs := #[.int .u8 a0_0, .int .i64 a0_1, .int .i64 a0_2, .slice A0_3 l0_3.length c0_3]) (t := 41) ?hr ?_; (case hd => rfl); (case hg => rfl); (case hr => first | (go_simp; done) | (go_simp; rfl)); intro gb252 hg w30 hbox hb; have n0_ := Aside0.mk (below_step (by repeat (first | (with_reducible first | exact HB.out | apply below_alloc | apply pw_below_drewN | apply below_drew1) | exact HB.out)) hb); have n1_ := Aside0.mk (hbox); have n2_ := Aside0.mk ((by rw [hg]; exact (below_size (by repeat (first | (with_reducible first | exact HB.out | apply below_alloc | apply pw_below_drewN | apply below_drew1) | exact HB.out))) : w.heap.size ≤ gb252)); have n3_ := Aside0.mk ((by rw [hg]; exact (below_size (by repeat (first | (with_reducible first | exact HB.out | apply below_alloc | apply pw_below_drewN | apply below_drew1) | exact HB.out))) : w.heap.size ≤ gb252)); clear HB; have HB := n0_; have BK252 := n1_; have GW252 := n2_; have GE252 := n3_; clear n0_ n1_ n2_ n3_; clear hb hbox hg; have hcz31_0 : w30.cell? ⟨gb252, 0, none⟩ = some (.int .u8 a0_0) := (blk_cell BK252.out 0).trans rfl; have hcz31_1 : w30.cell? ⟨gb252, 1, none⟩ = some (.int .i64 a0_1) := (blk_cell BK252.out 1).trans rfl; have hcz31_2 : w30.cell? ⟨gb252, 2, none⟩ = some (.int .i64 a0_2) := (blk_cell BK252.out 2).trans rfl; have hcz31_3 : w30.cell? ⟨gb252, 3, none⟩ = some (.slice A0_3 l0_3.length c0_3) := (blk_cell BK252.out 3).trans rfl; have hfz31_0 := blk_frozen BK252.out 0; have hfz31_1 := blk_frozen BK252.out 1; have hfz31_2 := blk_frozen BK252.out 2; have hfz31_3 := blk_frozen BK252.out 3)); try go_wp2_with (first | ((with_reducible refine gate_dst (N := 1) rfl ?_); refine box_event ?hg (N := 1) ?hd (cs := #[.int .u8 a0_0, .int .i64 a0_1, .int .i64 a0_2, .slice A0_3 l0_3.length c0_3]) (t := 41) ?hr ?_; (case hd => rfl); (case hg => rfl); (case hr => first | (go_simp; done) | (go_simp; rfl)); intro gb252 hg w30 hbox hb; have n0_ := Aside0.mk (below_step (by repeat (first | (with_reducible first | exact HB.out | apply below_alloc | apply pw_below_drewN | apply below_drew1) | exact HB.out)) hb); have n1_ := Aside0.mk (hbox); have n2_ := Aside0.mk ((by rw [hg]; exact (below_size (by repeat (first | (with_reducible first | exact HB.out | apply below_alloc | apply pw_below_drewN | apply below_drew1) | exact HB.out))) : w.heap.size ≤ gb252)); have n3_ := Aside0.mk ((by rw [hg]; exact (below_size (by repeat (first | (with_reducible first | exact HB.out | apply below_alloc | apply pw_below_drewN | apply below_drew1) | exact HB.out))) : w.heap.size ≤ gb252)); clear HB; have HB := n0_; have BK252 := n1_; have GW252 := n2_; have GE252 := n3_; clear n0_ n1_ n2_ n3_; clear hb hbox hg; have hcz31_0 : w30.cell? ⟨gb252, 0, none⟩ = some (.int .u8 a0_0) := (blk_cell BK252.out 0).trans rfl; have hcz31_1 : w30.cell? ⟨gb252, 1, none⟩ = some (.int .i64 a0_1) := (blk_cell BK252.out 1).trans rfl; have hcz31_2 : w30.cell? ⟨gb252, 2, none⟩ = some (.int .i64 a0_2) := (blk_cell BK252.out 2).trans rfl; have hcz31_3 : w30.cell? ⟨gb252, 3, none⟩ = some (.slice A0_3 l0_3.length c0_3) := (blk_cell BK252.out 3).trans rfl; have hfz31_0 := blk_frozen BK252.out 0; have hfz31_1 := blk_frozen BK252.out 1; have hfz31_2 := blk_frozen BK252.out 2; have hfz31_3 := blk_frozen BK252.out 3)))
            go_ret
            exact ⟨by first | rfl | (simp [errW_none, errW_some] <;> rfl) | (simp [*, errW_none, errW_some] <;> rfl), by repeat (first | (with_reducible first | exact HB.out | apply below_alloc | apply pw_below_drewN | apply below_drew1 | refine below_set ?_ GE252.out) | exact HB.out)⟩
        · rw [if_neg c26] at H
          have c26b0 : (a0_0 == 3) = false := beq_eq_false_iff_ne.mpr c26
          have c26b1 : (a0_0 != 3) = true := bne_iff_ne.mpr c26
          by_cases c32 : a0_0 = 5
          · rw [if_pos c32] at H
            have c32b0 : (a0_0 == 5) = true := beq_iff_eq.mpr c32
            have c32b1 : (a0_0 != 5) = false := bne_eq_false_iff_eq.mpr c32
            clear c32
            obtain rfl := Option.some.inj H
            go_enter Tryd.func56, Tryd.ntmps56
            go_wp2_with (first | ((with_reducible refine gate_dst (N := 1) rfl ?_); refine box_event ?hg (N := 1) ?hd (cs := #[.int .u8 a0_0, .int .i64 a0_1, .int .i64 a0_2, .slice A0_3 l0_3.length c0_3]) (t := 41) ?hr ?_; (case hd => rfl); (case hg => rfl); (case hr => first | (go_simp; done) | (go_simp; rfl)); intro gb252 hg w33 hbox hb; have n0_ := Aside0.mk (below_step (by repeat (first | (with_reducible first | exact HB.out | apply below_alloc | apply pw_below_drewN | apply below_drew1) | exact HB.out)) hb); have n1_ := Aside0.mk (hbox); have n2_ := Aside0.mk ((by rw [hg]; exact (below_size (by repeat (first | (with_reducible first | exact HB.out | apply below_alloc | apply pw_below_drewN | apply below_drew1) | exact HB.out))) : w.heap.size ≤ gb252)); have n3_ := Aside0.mk ((by rw [hg]; exact (below_size (by repeat (first | (with_reducible first | exact HB.out | apply below_alloc | apply pw_below_drewN | apply below_drew1) | exact HB.out))) : w.heap.size ≤ gb252)); clear HB; have HB := n0_; have BK252 := n1_; have GW252 := n2_; have GE252 := n3_; clear n0_ n1_ n2_ n3_; clear hb hbox hg; have hcz34_0 : w33.cell? ⟨gb252, 0, none⟩ = some (.int .u8 a0_0) := (blk_cell BK252.out 0).trans rfl; have hcz34_1 : w33.cell? ⟨gb252, 1, none⟩ = some (.int .i64 a0_1) := (blk_cell BK252.out 1).trans rfl; have hcz34_2 : w33.cell? ⟨gb252, 2, none⟩ = some (.int .i64 a0_2) := (blk_cell BK252.out 2).trans rfl; have hcz34_3 : w33.cell? ⟨gb252, 3, none⟩ = some (.slice A0_3 l0_3.length c0_3) := (blk_cell BK252.out 3).trans rfl; have hfz34_0 := blk_frozen BK252.out 0; have hfz34_1 := blk_frozen BK252.out 1; have hfz34_2 := blk_frozen BK252.out 2; have hfz34_3 := blk_frozen BK252.out 3))
            repeat (go_quiet (first | ((with_reducible refine gate_dst (N := 1) rfl ?_); refine box_event ?hg (N := 1) ?hd (cs := #[.int .u8 a0_0, .int .i64 a0_1, .int .i64 a0_2, .slice A0_3 l0_3.length c0_3]) (t := 41) ?hr ?_; (case hd => rfl); (case hg => rfl); (case hr => first | (go_simp; done) | (go_simp; rfl)); intro gb252 hg w33 hbox hb; have n0_ := Aside0.mk (below_step (by repeat (first | (with_reducible first | exact HB.out | apply below_alloc | apply pw_below_drewN | apply below_drew1) | exact HB.out)) hb); have n1_ := Aside0.mk (hbox); have n2_ := Aside0.mk ((by rw [hg]; exact (below_size (by repeat (first | (with_reducible first | exact HB.out | apply below_alloc | apply pw_below_drewN | apply below_drew1) | exact HB.out))) : w.heap.size ≤ gb252)); have n3_ := Aside0.mk ((by rw [hg]; exact (below_size (by repeat (first | (with_reducible first | exact HB.out | apply below_alloc | apply pw_below_drewN | apply below_drew1) | exact HB.out))) : w.heap.size ≤ gb252)); clear HB; have HB := n0_; have BK252 := n1_; have GW252 := n2_; have GE252 := n3_; clear n0_ n1_ n2_ n3_; clear hb hbox hg; have hcz34_0 : w33.cell? ⟨gb252, 0, none⟩ = some (.int .u8 a0_0) := (blk_cell BK252.out 0).trans rfl; have hcz34_1 : w33.cell? ⟨gb252, 1, none⟩ = some (.int .i64 a0_1) := (blk_cell BK252.out 1).trans rfl; have hcz34_2 : w33.cell? ⟨gb252, 2, none⟩ = some (.int .i64 a0_2) := (blk_cell BK252.out 2).trans rfl; have hcz34_3 : w33.cell? ⟨gb252, 3, none⟩ = some (.slice A0_3 l0_3.length c0_3) := (blk_cell BK252.out 3).trans rfl; have hfz34_0 := blk_frozen BK252.out 0; have hfz34_1 := blk_frozen BK252.out 1; have hfz34_2 := blk_frozen BK252.out 2; have hfz34_3 := blk_frozen BK252.out 3)); try go_wp2_with (first | ((with_reducible refine gate_dst (N := 1) rfl ?_); refine box_event ?hg (N := 1) ?hd (cs := #[.int .u8 a0_0, .int .i64 a0_1, .int .i64 a0_2, .slice A0_3 l0_3.length c0_3]) (t := 41) ?hr ?_; (case hd => rfl); (case hg => rfl); (case hr => first | (go_simp; done) | (go_simp; rfl)); intro gb252 hg w33 hbox hb; have n0_ := Aside0.mk (below_step (by repeat (first | (with_reducible first | exact HB.out | apply below_alloc | apply pw_below_drewN | apply below_drew1) | exact HB.out)) hb); have n1_ := Aside0.mk (hbox); have n2_ := Aside0.mk ((by rw [hg]; exact (below_size (by repeat (first | (with_reducible first | exact HB.out | apply below_alloc | apply pw_below_drewN | apply below_drew1) | exact HB.out))) : w.heap.size ≤ gb252)); have n3_ := Aside0.mk ((by rw [hg]; exact (below_size (by repeat (first | (with_reducible first | exact HB.out | apply below_alloc | apply pw_below_drewN | apply below_drew1) | exact HB.out))) : w.heap.size ≤ gb252)); clear HB; have HB := n0_; have BK252 := n1_; have GW252 := n2_; have GE252 := n3_; clear n0_ n1_ n2_ n3_; clear hb hbox hg; have hcz34_0 : w33.cell? ⟨gb252, 0, none⟩ = some (.int .u8 a0_0) := (blk_cell BK252.out 0).trans rfl; have hcz34_1 : w33.cell? ⟨gb252, 1, none⟩ = some (.int .i64 a0_1) := (blk_cell BK252.out 1).trans rfl; have hcz34_2 : w33.cell? ⟨gb252, 2, none⟩ = some (.int .i64 a0_2) := (blk_cell BK252.out 2).trans rfl; have hcz34_3 : w33.cell? ⟨gb252, 3, none⟩ = some (.slice A0_3 l0_3.length c0_3) := (blk_cell BK252.out 3).trans rfl; have hfz34_0 := blk_frozen BK252.out 0; have hfz34_1 := blk_frozen BK252.out 1; have hfz34_2 := blk_frozen BK252.out 2; have hfz34_3 := blk_frozen BK252.out 3)))
            go_ret
            exact ⟨by first | rfl | (simp [errW_none, errW_some] <;> rfl) | (simp [*, errW_none, errW_some] <;> rfl), by repeat (first | (with_reducible first | exact HB.out | apply below_alloc | apply pw_below_drewN | apply below_drew1 | refine below_set ?_ GE252.out) | exact HB.out)⟩
          · rw [if_neg c32] at H
            have c32b0 : (a0_0 == 5) = false := beq_eq_false_iff_ne.mpr c32
            have c32b1 : (a0_0 != 5) = true := bne_iff_ne.mpr c32
            obtain rfl := Option.some.inj H
            go_enter Tryd.func56, Tryd.ntmps56
            go_wp2_with (first | ((with_reducible refine gate_dst (N := 1) rfl ?_); refine box_event ?hg (N := 1) ?hd (cs := #[.int .u8 a0_0, .int .i64 a0_1, .int .i64 a0_2, .slice A0_3 l0_3.length c0_3]) (t := 41) ?hr ?_; (case hd => rfl); (case hg => rfl); (case hr => first | (go_simp; done) | (go_simp; rfl)); intro gb252 hg w35 hbox hb; have n0_ := Aside0.mk (below_step (by repeat (first | (with_reducible first | exact HB.out | apply below_alloc | apply pw_below_drewN | apply below_drew1) | exact HB.out)) hb); have n1_ := Aside0.mk (hbox); have n2_ := Aside0.mk ((by rw [hg]; exact (below_size (by repeat (first | (with_reducible first | exact HB.out | apply below_alloc | apply pw_below_drewN | apply below_drew1) | exact HB.out))) : w.heap.size ≤ gb252)); have n3_ := Aside0.mk ((by rw [hg]; exact (below_size (by repeat (first | (with_reducible first | exact HB.out | apply below_alloc | apply pw_below_drewN | apply below_drew1) | exact HB.out))) : w.heap.size ≤ gb252)); clear HB; have HB := n0_; have BK252 := n1_; have GW252 := n2_; have GE252 := n3_; clear n0_ n1_ n2_ n3_; clear hb hbox hg; have hcz36_0 : w35.cell? ⟨gb252, 0, none⟩ = some (.int .u8 a0_0) := (blk_cell BK252.out 0).trans rfl; have hcz36_1 : w35.cell? ⟨gb252, 1, none⟩ = some (.int .i64 a0_1) := (blk_cell BK252.out 1).trans rfl; have hcz36_2 : w35.cell? ⟨gb252, 2, none⟩ = some (.int .i64 a0_2) := (blk_cell BK252.out 2).trans rfl; have hcz36_3 : w35.cell? ⟨gb252, 3, none⟩ = some (.slice A0_3 l0_3.length c0_3) := (blk_cell BK252.out 3).trans rfl; have hfz36_0 := blk_frozen BK252.out 0; have hfz36_1 := blk_frozen BK252.out 1; have hfz36_2 := blk_frozen BK252.out 2; have hfz36_3 := blk_frozen BK252.out 3))
            repeat (go_quiet (first | ((with_reducible refine gate_dst (N := 1) rfl ?_); refine box_event ?hg (N := 1) ?hd (cs := #[.int .u8 a0_0, .int .i64 a0_1, .int .i64 a0_2, .slice A0_3 l0_3.length c0_3]) (t := 41) ?hr ?_; (case hd => rfl); (case hg => rfl); (case hr => first | (go_simp; done) | (go_simp; rfl)); intro gb252 hg w35 hbox hb; have n0_ := Aside0.mk (below_step (by repeat (first | (with_reducible first | exact HB.out | apply below_alloc | apply pw_below_drewN | apply below_drew1) | exact HB.out)) hb); have n1_ := Aside0.mk (hbox); have n2_ := Aside0.mk ((by rw [hg]; exact (below_size (by repeat (first | (with_reducible first | exact HB.out | apply below_alloc | apply pw_below_drewN | apply below_drew1) | exact HB.out))) : w.heap.size ≤ gb252)); have n3_ := Aside0.mk ((by rw [hg]; exact (below_size (by repeat (first | (with_reducible first | exact HB.out | apply below_alloc | apply pw_below_drewN | apply below_drew1) | exact HB.out))) : w.heap.size ≤ gb252)); clear HB; have HB := n0_; have BK252 := n1_; have GW252 := n2_; have GE252 := n3_; clear n0_ n1_ n2_ n3_; clear hb hbox hg; have hcz36_0 : w35.cell? ⟨gb252, 0, none⟩ = some (.int .u8 a0_0) := (blk_cell BK252.out 0).trans rfl; have hcz36_1 : w35.cell? ⟨gb252, 1, none⟩ = some (.int .i64 a0_1) := (blk_cell BK252.out 1).trans rfl; have hcz36_2 : w35.cell? ⟨gb252, 2, none⟩ = some (.int .i64 a0_2) := (blk_cell BK252.out 2).trans rfl; have hcz36_3 : w35.cell? ⟨gb252, 3, none⟩ = some (.slice A0_3 l0_3.length c0_3) := (blk_cell BK252.out 3).trans rfl; have hfz36_0 := blk_frozen BK252.out 0; have hfz36_1 := blk_frozen BK252.out 1; have hfz36_2 := blk_frozen BK252.out 2; have hfz36_3 := blk_frozen BK252.out 3)); try go_wp2_with (first | ((with_reducible refine gate_dst (N := 1) rfl ?_); refine box_event ?hg (N := 1) ?hd (cs := #[.int .u8 a0_0, .int .i64 a0_1, .int .i64 a0_2, .slice A0_3 l0_3.length c0_3]) (t := 41) ?hr ?_; (case hd => rfl); (case hg => rfl); (case hr => first | (go_simp; done) | (go_simp; rfl)); intro gb252 hg w35 hbox hb; have n0_ := Aside0.mk (below_step (by repeat (first | (with_reducible first | exact HB.out | apply below_alloc | apply pw_below_drewN | apply below_drew1) | exact HB.out)) hb); have n1_ := Aside0.mk (hbox); have n2_ := Aside0.mk ((by rw [hg]; exact (below_size (by repeat (first | (with_reducible first | exact HB.out | apply below_alloc | apply pw_below_drewN | apply below_drew1) | exact HB.out))) : w.heap.size ≤ gb252)); have n3_ := Aside0.mk ((by rw [hg]; exact (below_size (by repeat (first | (with_reducible first | exact HB.out | apply below_alloc | apply pw_below_drewN | apply below_drew1) | exact HB.out))) : w.heap.size ≤ gb252)); clear HB; have HB := n0_; have BK252 := n1_; have GW252 := n2_; have GE252 := n3_; clear n0_ n1_ n2_ n3_; clear hb hbox hg; have hcz36_0 : w35.cell? ⟨gb252, 0, none⟩ = some (.int .u8 a0_0) := (blk_cell BK252.out 0).trans rfl; have hcz36_1 : w35.cell? ⟨gb252, 1, none⟩ = some (.int .i64 a0_1) := (blk_cell BK252.out 1).trans rfl; have hcz36_2 : w35.cell? ⟨gb252, 2, none⟩ = some (.int .i64 a0_2) := (blk_cell BK252.out 2).trans rfl; have hcz36_3 : w35.cell? ⟨gb252, 3, none⟩ = some (.slice A0_3 l0_3.length c0_3) := (blk_cell BK252.out 3).trans rfl; have hfz36_0 := blk_frozen BK252.out 0; have hfz36_1 := blk_frozen BK252.out 1; have hfz36_2 := blk_frozen BK252.out 2; have hfz36_3 := blk_frozen BK252.out 3)))
            go_ret
            exact ⟨by first | rfl | (simp [errW_none, errW_some] <;> rfl) | (simp [*, errW_none, errW_some] <;> rfl), by repeat (first | (with_reducible first | exact HB.out | apply below_alloc | apply pw_below_drewN | apply below_drew1 | refine below_set ?_ GE252.out) | exact HB.out)⟩
def types_scalar.f (a0_0 : Int) (a0_1 : Int) (a0_2 : Int) (l0_3 : List Int) : Option (Bool) := if a0_0 ≥ 1 then (some (decide (a0_0 ≤ 3))) else (some false)
set_option maxHeartbeats 8000000 in
set_option maxRecDepth 100000 in
theorem types_scalar.calls (a0_0 : Int) (a0_1 : Int) (a0_2 : Int) (A0_3 : Option Addr) (c0_3 : Nat) (l0_3 : List Int) (r : Bool) (w : World) (hr0_3 : Kd.C (Kd.int .i64) w A0_3 l0_3.length l0_3) (hc0_3 : l0_3.length ≤ c0_3) (h : types_scalar.f a0_0 a0_1 a0_2 l0_3 = some r) :
    Calls Tryd.prog 60 #[.agg #[.int .u8 a0_0, .int .i64 a0_1, .int .i64 a0_2, .slice A0_3 l0_3.length c0_3]] w fun e w' => e = .returned (.bool r) ∧ Below w.heap.size w w' := by
  have hu41 := Tryd.underlying41
  have HR0_3 := Aside0.mk hr0_3
  have HC0_3 := Aside0.mk hc0_3
  clear hr0_3 hc0_3
  have HB := Aside0.mk (Below.refl w.heap.size w)
  have H : (if a0_0 ≥ 1 then (some (decide (a0_0 ≤ 3))) else (some false)) = some r := h
  clear h
  by_cases c2 : a0_0 ≥ 1
  · rw [if_pos c2] at H
    have c2b0 : decide (1 ≤ a0_0) = true := decide_eq_true c2
    clear c2
    obtain rfl := Option.some.inj H
    go_enter Tryd.func60, Tryd.ntmps60
    go_wp2_with (first | ((with_reducible refine gate_dst (N := 1) rfl ?_); refine box_event ?hg (N := 1) ?hd (cs := #[.int .u8 a0_0, .int .i64 a0_1, .int .i64 a0_2, .slice A0_3 l0_3.length c0_3]) (t := 41) ?hr ?_; (case hd => rfl); (case hg => rfl); (case hr => first | (go_simp; done) | (go_simp; rfl)); intro gb253 hg w3 hbox hb; have n0_ := Aside0.mk (below_step (by repeat (first | (with_reducible first | exact HB.out | apply below_alloc | apply pw_below_drewN | apply below_drew1) | exact HB.out)) hb); have n1_ := Aside0.mk (hbox); have n2_ := Aside0.mk ((by rw [hg]; exact (below_size (by repeat (first | (with_reducible first | exact HB.out | apply below_alloc | apply pw_below_drewN | apply below_drew1) | exact HB.out))) : w.heap.size ≤ gb253)); have n3_ := Aside0.mk ((by rw [hg]; exact (below_size (by repeat (first | (with_reducible first | exact HB.out | apply below_alloc | apply pw_below_drewN | apply below_drew1) | exact HB.out))) : w.heap.size ≤ gb253)); clear HB; have HB := n0_; have BK253 := n1_; have GW253 := n2_; have GE253 := n3_; clear n0_ n1_ n2_ n3_; clear hb hbox hg; have hcz4_0 : w3.cell? ⟨gb253, 0, none⟩ = some (.int .u8 a0_0) := (blk_cell BK253.out 0).trans rfl; have hcz4_1 : w3.cell? ⟨gb253, 1, none⟩ = some (.int .i64 a0_1) := (blk_cell BK253.out 1).trans rfl; have hcz4_2 : w3.cell? ⟨gb253, 2, none⟩ = some (.int .i64 a0_2) := (blk_cell BK253.out 2).trans rfl; have hcz4_3 : w3.cell? ⟨gb253, 3, none⟩ = some (.slice A0_3 l0_3.length c0_3) := (blk_cell BK253.out 3).trans rfl; have hfz4_0 := blk_frozen BK253.out 0; have hfz4_1 := blk_frozen BK253.out 1; have hfz4_2 := blk_frozen BK253.out 2; have hfz4_3 := blk_frozen BK253.out 3))
    go_ret
    exact ⟨by first | rfl | (simp [errW_none, errW_some] <;> rfl) | (simp [*, errW_none, errW_some] <;> rfl), by repeat (first | (with_reducible first | exact HB.out | apply below_alloc | apply pw_below_drewN | apply below_drew1 | refine below_set ?_ GE253.out) | exact HB.out)⟩
  · rw [if_neg c2] at H
    have c2b0 : decide (1 ≤ a0_0) = false := decide_eq_false c2
    clear c2
    obtain rfl := Option.some.inj H
    go_enter Tryd.func60, Tryd.ntmps60
    go_wp2_with (first | ((with_reducible refine gate_dst (N := 1) rfl ?_); refine box_event ?hg (N := 1) ?hd (cs := #[.int .u8 a0_0, .int .i64 a0_1, .int .i64 a0_2, .slice A0_3 l0_3.length c0_3]) (t := 41) ?hr ?_; (case hd => rfl); (case hg => rfl); (case hr => first | (go_simp; done) | (go_simp; rfl)); intro gb253 hg w5 hbox hb; have n0_ := Aside0.mk (below_step (by repeat (first | (with_reducible first | exact HB.out | apply below_alloc | apply pw_below_drewN | apply below_drew1) | exact HB.out)) hb); have n1_ := Aside0.mk (hbox); have n2_ := Aside0.mk ((by rw [hg]; exact (below_size (by repeat (first | (with_reducible first | exact HB.out | apply below_alloc | apply pw_below_drewN | apply below_drew1) | exact HB.out))) : w.heap.size ≤ gb253)); have n3_ := Aside0.mk ((by rw [hg]; exact (below_size (by repeat (first | (with_reducible first | exact HB.out | apply below_alloc | apply pw_below_drewN | apply below_drew1) | exact HB.out))) : w.heap.size ≤ gb253)); clear HB; have HB := n0_; have BK253 := n1_; have GW253 := n2_; have GE253 := n3_; clear n0_ n1_ n2_ n3_; clear hb hbox hg; have hcz6_0 : w5.cell? ⟨gb253, 0, none⟩ = some (.int .u8 a0_0) := (blk_cell BK253.out 0).trans rfl; have hcz6_1 : w5.cell? ⟨gb253, 1, none⟩ = some (.int .i64 a0_1) := (blk_cell BK253.out 1).trans rfl; have hcz6_2 : w5.cell? ⟨gb253, 2, none⟩ = some (.int .i64 a0_2) := (blk_cell BK253.out 2).trans rfl; have hcz6_3 : w5.cell? ⟨gb253, 3, none⟩ = some (.slice A0_3 l0_3.length c0_3) := (blk_cell BK253.out 3).trans rfl; have hfz6_0 := blk_frozen BK253.out 0; have hfz6_1 := blk_frozen BK253.out 1; have hfz6_2 := blk_frozen BK253.out 2; have hfz6_3 := blk_frozen BK253.out 3))
    go_ret
    exact ⟨by first | rfl | (simp [errW_none, errW_some] <;> rfl) | (simp [*, errW_none, errW_some] <;> rfl), by repeat (first | (with_reducible first | exact HB.out | apply below_alloc | apply pw_below_drewN | apply below_drew1 | refine below_set ?_ GE253.out) | exact HB.out)⟩
def types_sum.l0 : Nat → Int → List Int → Int → Int → Option (Int)
  | 0, _, _, _, _ => none
  | k + 1, x2, x5, x6, x7 => if x7 < x6 then (if 0 ≤ x7 then (if x7 < (x5.length : Int) then (types_sum.l0 k (wrap64 (x2 + (rd x5 x7))) x5 x6 (wrap64 (x7 + 1))) else (none)) else (none)) else (some x2)
def types_sum.f (k : Nat) (l0 : List Int) : Option (Int) := types_sum.l0 k 0 l0 (l0.length : Int) 0
set_option maxHeartbeats 8000000 in
set_option maxRecDepth 100000 in
theorem types_sum.calls (k : Nat) (A0 : Option Addr) (c0 : Nat) (l0 : List Int) (r : Int) (w : World) (hr0 : Kd.C (Kd.int .i64) w A0 l0.length l0) (hc0 : l0.length ≤ c0) (h : types_sum.f k l0 = some r) :
    Calls Tryd.prog 61 #[.slice A0 l0.length c0] w fun e w' => e = .returned (.int .i64 r) ∧ Drawn0 w w' := by
  have HR0 := Aside0.mk hr0
  have HC0 := Aside0.mk hc0
  clear hr0 hc0
  have H : (types_sum.l0 k 0 l0 (l0.length : Int) 0) = some r := h
  clear h
  have H' := Aside0.mk H
  clear H
  go_enter Tryd.func61, Tryd.ntmps61
  go_wp2
  go_loopg [2, 7] k (fun kq v2 v7 w' => ∃ (x2_1 : Int) (x7_1 : Int), v2 = .int .i64 x2_1 ∧ v7 = .int .i64 x7_1 ∧ Aside0 (types_sum.l0 kq x2_1 l0 (l0.length : Int) x7_1 = some r) ∧ Aside0 (kq ≤ k) ∧ Drawn0 w w')
  case atStart => exact ⟨(0), (0), (by first | rfl | (simp; done) | (simp [*]; done)), (by first | rfl | (simp; done) | (simp [*]; done)), H', ⟨Nat.le_refl _⟩, by repeat (first | exact Drawn0.refl _ | apply Drawn0.step)⟩
  case round =>
    clear H'
    obtain ⟨x2_1, x7_1, rfl, rfl, HA, HK1, ⟨m1, rfl⟩⟩ := hrel
    cases gk with
    | zero => exact absurd HA.out (by simp [types_sum.l0])
    | succ k1 =>
      have H := HA.out
      clear HA
      simp only [types_sum.l0] at H
      by_cases c2 : x7_1 < (l0.length : Int)
      · rw [if_pos c2] at H
        have c2b0 : decide (x7_1 < (l0.length : Int)) = true := decide_eq_true c2
        clear c2
        by_cases c3 : 0 ≤ x7_1
        · rw [if_pos c3] at H
          have c3b0 : decide (0 ≤ x7_1) = true := decide_eq_true c3
          clear c3
          by_cases c4 : x7_1 < (l0.length : Int)
          · rw [if_pos c4] at H
            have c4b0 : decide (x7_1 < (l0.length : Int)) = true := decide_eq_true c4
            clear c4
            have H' := Aside0.mk H
            clear H
            have p254 : 0 ≤ (x7_1 : Int) := of_decide_eq_true (by first | (with_reducible assumption) | assumption)
            have q254 : x7_1 < (l0.length : Int) := of_decide_eq_true (by first | (with_reducible assumption) | assumption)
            obtain ⟨ad254, e254, hx254_0⟩ := Kd.at_int HR0.out x7_1 p254 q254
            cases e254
            replace p254 := eq_true p254
            replace q254 := eq_true q254
            go_wp2
            go_roundg k1
            case measure => have := HK1.out; omega
            case rel => exact ⟨(wrap64 (x2_1 + (rd l0 x7_1))), (wrap64 (x7_1 + 1)), (by first | rfl | (simp; done) | (simp [*]; done)), (by first | rfl | (simp; done) | (simp [*]; done)), H', ⟨by have := HK1.out; omega⟩, by repeat (first | exact Drawn0.refl _ | apply Drawn0.step)⟩
          · rw [if_neg c4] at H
            exact absurd H (by simp)
        · rw [if_neg c3] at H
          exact absurd H (by simp)
      · rw [if_neg c2] at H
        have c2b0 : decide (x7_1 < (l0.length : Int)) = false := decide_eq_false c2
        clear c2
        obtain rfl := Option.some.inj H
        go_wp2
        go_ret
        exact ⟨by first | rfl | (simp; done) | (simp [*]; done), by repeat (first | exact Drawn0.refl _ | apply Drawn0.step)⟩
end Go.Proofs.YtlghkomipboflaaDoor.X
end
section
namespace Go.Proofs.YtlghkomipboflaaDoor
open Go.RowKit Go.Proofs.YtlghkomipboflaaDoorW.PrintWords Go.Proofs.YtlghkomipboflaaDoorW.PrintLast
set_option linter.unusedVariables false
set_option linter.unusedSimpArgs false
def smallL (l : List UInt8) (most : Int) : Int × Int :=
  if most < 0 ∨ 1000000 < most then (0, 2) else if (readL l).2 = 0 ∧ 0 ≤ (readL l).1 ∧ (readL l).1 ≤ most then ((readL l).1, 0) else (0, 10)
theorem small_tail (r : Int × Int) (x1 : Int) : (if r.2 = 0 then (if r.1 < 0 then (some ((0 : Int), (10 : Int))) else (if r.1 > x1 then (some (0, 10)) else (some (r.1, 0)))) else (some (0, 10))) = some (if r.2 = 0 ∧ 0 ≤ r.1 ∧ r.1 ≤ x1 then (r.1, 0) else (0, 10)) := by
  by_cases h : r.2 = 0
  · rw [if_pos h]
    by_cases h1 : r.1 < 0
    · rw [if_pos h1, if_neg (by omega)]
    · rw [if_neg h1]
      by_cases h2 : r.1 > x1
      · rw [if_pos h2, if_neg (by omega)]
      · rw [if_neg h2, if_pos (by omega)]
  · rw [if_neg h, if_neg (by omega)]
end Go.Proofs.YtlghkomipboflaaDoor
end
section
namespace Go.Proofs.YtlghkomipboflaaDoor
open Go.RowKit Go.Proofs.YtlghkomipboflaaDoor.X Go.Proofs.YtlghkomipboflaaDoorW.PrintWords Go.Proofs.YtlghkomipboflaaDoorW.PrintLast
theorem progSmall (s : ByteArray) (most : Int) : Ev (fun k => num_Small.f k s most) (smallL s.data.toList most) := by
  unfold smallL
  have hj : ∀ b : Bool, (b = true ↔ (most < 0 ∨ 1000000 < most)) → Ev (fun k => num_Small.j0 k s most b) (if most < 0 ∨ 1000000 < most then (0, 2) else if (readL s.data.toList).2 = 0 ∧ 0 ≤ (readL s.data.toList).1 ∧ (readL s.data.toList).1 ≤ most then ((readL s.data.toList).1, 0) else (0, 10)) := by
    intro b hb
    by_cases h : b = true
    · rw [if_pos (hb.1 h)]
      refine Ev.step (f := fun _ => some (0, 2)) (fun k => ?_) (Ev.now _)
      simp only [num_Small.j0]; rw [if_pos h]
    · rw [if_neg (fun e => h (hb.2 e))]
      refine Ev.step (f := fun _ => (num_Read.f s).bind fun bt111 => (if bt111.2 = 0 then (if bt111.1 < 0 then (some (0, 10)) else (if bt111.1 > most then (some (0, 10)) else (some (bt111.1, 0)))) else (some (0, 10)))) (fun k => ?_) ?_
      · simp only [num_Small.j0]; rw [if_neg h]
      · exact Ev.congr (f := fun _ => some _) (fun k => small_tail _ most) (Ev.now _)
  by_cases h : most < 0
  · refine Ev.congr (f := fun k => num_Small.j0 k s most true) (fun k => ?_) (hj true (by simp [h]))
    simp only [num_Small.f]; rw [if_pos h]
  · refine Ev.congr (f := fun k => num_Small.j0 k s most (decide (most > 1000000))) (fun k => ?_) (hj _ (by simp [h]))
    simp only [num_Small.f]; rw [if_neg h]
end Go.Proofs.YtlghkomipboflaaDoor
end
section
namespace Go.Proofs.YtlghkomipboflaaDoor
open Go.RowKit Go.Proofs.YtlghkomipboflaaDoorW.PrintWords Go.Proofs.YtlghkomipboflaaDoorW.PrintLast
def mkB (l : List UInt8) : ByteArray := ⟨l.toArray⟩
theorem mkB_data (l : List UInt8) : (mkB l).data.toList = l := by simp [mkB]
theorem mkB_of (a : ByteArray) : mkB a.data.toList = a := by cases a; simp [mkB]
theorem ext_mk (s : ByteArray) (a b : Nat) : s.extract a b = mkB ((s.data.toList.drop a).take (b - a)) := by
  have e : (s.extract a b).data.toList = (s.data.toList.drop a).take (b - a) := by simp
  rw [← e, mkB_of]
end Go.Proofs.YtlghkomipboflaaDoor
end
section
namespace Go.Proofs.YtlghkomipboflaaDoor
open Go.RowKit Go.Proofs.YtlghkomipboflaaDoorW.PrintWords Go.Proofs.YtlghkomipboflaaDoorW.PrintLast
set_option linter.unusedVariables false
set_option linter.unusedSimpArgs false
def splitL (c : UInt8) : List UInt8 → List (List UInt8)
  | [] => [[]]
  | x :: t => if x = c then [] :: splitL c t else match splitL c t with
    | [] => [[x]]
    | h :: r => (x :: h) :: r
def joinHead (p : List UInt8) (l : List (List UInt8)) : List (List UInt8) := match l with
  | [] => [p]
  | h :: r => (p ++ h) :: r
theorem splitL_ne (c : UInt8) (l : List UInt8) : splitL c l ≠ [] := by
  cases l with
  | nil => simp [splitL]
  | cons x t => unfold splitL; split; exact (by simp); split <;> simp
theorem splitL_cons (c x : UInt8) (t : List UInt8) (h : x ≠ c) : splitL c (x :: t) = joinHead [x] (splitL c t) := by
  rw [splitL, if_neg h]
  cases splitL c t <;> simp [joinHead]
theorem splitL_hit (c : UInt8) (t : List UInt8) : splitL c (c :: t) = [] :: splitL c t := by rw [splitL, if_pos rfl]
theorem joinHead_nil (c : UInt8) (l : List UInt8) : joinHead [] (splitL c l) = splitL c l := by
  have := splitL_ne c l
  cases h : splitL c l with
  | nil => exact absurd h this
  | cons x t => simp [joinHead]
end Go.Proofs.YtlghkomipboflaaDoor
namespace Go.Proofs.YtlghkomipboflaaDoor
open Go.RowKit Go.Proofs.YtlghkomipboflaaDoorW.PrintWords Go.Proofs.YtlghkomipboflaaDoorW.PrintLast
set_option linter.unusedVariables false
set_option linter.unusedSimpArgs false
def blankTo (c : UInt8) : UInt8 := if c = 9 ∨ c = 13 then 32 else c
def wordsL (l : List UInt8) : List ByteArray := ((splitL 32 (((splitL 35 l).headD []).map blankTo)).map mkB).filter (fun x => x.toList != [])
theorem mkB_size (l : List UInt8) : (mkB l).size = l.length := by simp [mkB, ByteArray.size]
end Go.Proofs.YtlghkomipboflaaDoor
end
section
namespace Go.Proofs.YtlghkomipboflaaDoor
open Go.RowKit
set_option linter.unusedVariables false
theorem mkB_list (l : List UInt8) : (mkB l).toList = l := by rw [ByteArray.toList_eq, mkB_data]
theorem splitL_app (c : UInt8) (p l : List UInt8) (h : ∀ x ∈ p, x ≠ c) : splitL c (p ++ l) = joinHead p (splitL c l) := by
  induction p with
  | nil => rw [List.nil_append, joinHead_nil]
  | cons x t ih =>
    rw [List.cons_append, splitL_cons _ _ _ (h x (by simp)), ih (fun y hy => h y (by simp [hy]))]
    have := splitL_ne c l
    cases hs : splitL c l with
    | nil => exact absurd hs this
    | cons a b => simp [joinHead]
theorem head_join (p : List UInt8) (c : UInt8) (l : List UInt8) : (joinHead p (splitL c l)).headD [] = p ++ (splitL c l).headD [] := by
  have := splitL_ne c l
  cases hs : splitL c l with
  | nil => exact absurd hs this
  | cons a b => simp [joinHead]
theorem u8_all {p : UInt8 → Prop} (h : ∀ n : Fin 256, p (UInt8.ofNat n.val)) (c : UInt8) : p c := by
  have := h ⟨c.toNat, c.toNat_lt⟩
  simpa using this
theorem kb_one (c : UInt8) : kb c = 1 ↔ (c = 32 ∨ c = 9 ∨ c = 13) := by revert c; exact u8_all (by decide +kernel)
theorem kb_two (c : UInt8) : kb c = 2 ↔ c = 10 := by revert c; exact u8_all (by decide +kernel)
theorem kb_three (c : UInt8) : kb c = 3 ↔ c = 35 := by revert c; exact u8_all (by decide +kernel)
theorem blankTo_of (c : UInt8) : kb c = 1 → blankTo c = 32 := by revert c; exact u8_all (by decide +kernel)
theorem plain_ne (c : UInt8) : isPlain c = true → c ≠ 10 ∧ c ≠ 35 ∧ c ≠ 32 ∧ blankTo c = c := by revert c; exact u8_all (by decide +kernel)
theorem feed_ne (c : UInt8) : noFeed c = true → c ≠ 10 := by revert c; exact u8_all (by decide +kernel)
theorem wordsL_nil : wordsL [] = [] := by simp [wordsL, splitL, mkB_list]
theorem wordsL_blank (c : UInt8) (l : List UInt8) (h : kb c = 1) : wordsL (c :: l) = wordsL l := by
  have h1 := (kb_one c).1 h
  have h2 : c ≠ 35 := by rcases h1 with rfl | rfl | rfl <;> decide
  unfold wordsL
  rw [splitL_cons _ _ _ h2, head_join, List.singleton_append, List.map_cons, blankTo_of c h, splitL_hit]
  simp [mkB_list]
theorem wordsL_hash (l : List UInt8) : wordsL (35 :: l) = [] := by
  unfold wordsL
  rw [splitL_hit]
  simp [splitL, mkB_list]
def stops (l : List UInt8) : Prop := ∀ c t, l = c :: t → isPlain c = false ∧ kb c ≠ 2
theorem wordsL_word (p l : List UInt8) (hp : p ≠ []) (hall : ∀ x ∈ p, isPlain x = true) (hs : stops l) : wordsL (p ++ l) = mkB p :: wordsL l := by
  unfold wordsL
  rw [splitL_app 35 p l (fun x hx => (plain_ne x (hall x hx)).2.1), head_join, List.map_append]
  have hm : p.map blankTo = p := by
    have : p.map blankTo = p.map id := List.map_congr_left (fun x hx => (plain_ne x (hall x hx)).2.2.2)
    simpa using this
  rw [hm, splitL_app 32 p _ (fun x hx => (plain_ne x (hall x hx)).2.2.1)]
  have hq : ∃ r, splitL 32 (((splitL 35 l).headD []).map blankTo) = [] :: r := by
    cases l with
    | nil => exact ⟨[], by simp [splitL]⟩
    | cons c t =>
      obtain ⟨h1, h2⟩ := hs c t rfl
      rcases kb_cases c with h | h | h | h
      · have h1 := (kb_one c).1 h
        have h2 : c ≠ 35 := by rcases h1 with rfl | rfl | rfl <;> decide
        rw [splitL_cons _ _ _ h2, head_join, List.singleton_append, List.map_cons, blankTo_of c h, splitL_hit]
        exact ⟨_, rfl⟩
      · exact absurd h h2
      · rw [(kb_three c).1 h, splitL_hit]
        exact ⟨[], by simp [splitL]⟩
      · rw [isPlain, h] at h1; cases h1
  obtain ⟨r, hr⟩ := hq
  rw [hr]
  have hne : ((mkB p).toList != []) = true := by rw [mkB_list]; simpa using hp
  simp only [joinHead, List.map_cons, List.append_nil]
  rw [List.filter_cons, if_pos hne, List.filter_cons, if_neg (by simp [mkB_list])]
def goL : List (List UInt8) → List (List ByteArray) → Option (List (List ByteArray))
  | [], out => some out
  | h :: r, out => if (wordsL h).length ≤ 64 then goL r (endL out (wordsL h)) else none
def goH (l : List (List UInt8)) (ws : List ByteArray) (ls : List (List ByteArray)) : Option (List (List ByteArray)) := match l with
  | [] => none
  | h :: r => if (ws ++ wordsL h).length ≤ 64 then goL r (endL ls (ws ++ wordsL h)) else none
theorem goH_nil (l : List (List UInt8)) (hl : l ≠ []) (ls) : goH l [] ls = goL l ls := by
  cases l with
  | nil => exact absurd rfl hl
  | cons h r => simp [goH, goL]
theorem goH_join (p : List UInt8) (c : UInt8) (t : List UInt8) (ws ws' : List ByteArray) (ls) (h : ∀ x r, splitL c t = x :: r → ws ++ wordsL (p ++ x) = ws' ++ wordsL x) : goH (joinHead p (splitL c t)) ws ls = goH (splitL c t) ws' ls := by
  have := splitL_ne c t
  cases hs : splitL c t with
  | nil => exact absurd hs this
  | cons a b => simp only [joinHead, goH]; rw [h a b hs]
theorem takeWhile_all (p : UInt8 → Bool) (l : List UInt8) : ∀ x ∈ l.takeWhile p, p x = true := by
  induction l with
  | nil => simp
  | cons a t ih =>
    rw [List.takeWhile_cons]
    split
    · rename_i h
      intro x hx
      rcases List.mem_cons.1 hx with rfl | hx
      · exact h
      · exact ih x hx
    · simp
theorem dropWhile_head (p : UInt8 → Bool) (l : List UInt8) (c t) (h : l.dropWhile p = c :: t) : p c = false := by
  induction l with
  | nil => simp at h
  | cons a r ih =>
    rw [List.dropWhile_cons] at h
    split at h
    · exact ih h
    · rename_i hp
      injection h with h1 h2
      subst h1
      simpa using hp
theorem lexF_goH : ∀ (n : Nat) (l : List UInt8), l.length ≤ n → ∀ ws ls, lexF l ws ls = goH (splitL 10 l) ws ls := by
  intro n
  induction n with
  | zero =>
    intro l hl ws ls
    obtain rfl : l = [] := List.eq_nil_of_length_eq_zero (by omega)
    rw [lexF_nil]; simp [splitL, goH, goL, wordsL_nil]
  | succ n ih =>
    intro l hl ws ls
    cases l with
    | nil => rw [lexF_nil]; simp [splitL, goH, goL, wordsL_nil]
    | cons c t =>
      simp only [List.length_cons] at hl
      rcases kb_cases c with h | h | h | h
      · have hc : c ≠ 10 := by rcases (kb_one c).1 h with rfl | rfl | rfl <;> decide
        rw [lexF_blank _ _ _ _ h, ih t (by omega), splitL_cons _ _ _ hc]
        refine (goH_join _ _ _ _ _ _ ?_).symm
        intro x r _
        rw [List.singleton_append, wordsL_blank _ _ h]
      · rw [lexF_feed _ _ _ _ h, (kb_two c).1 h, splitL_hit]
        simp only [goH, wordsL_nil, List.append_nil]
        split
        · rw [ih t (by omega), goH_nil _ (splitL_ne _ _)]
        · rfl
      · have hc := (kb_three c).1 h
        subst hc
        rw [lexF_hash _ _ _ _ h]
        have e1 : (35 : UInt8) :: t = ((35 : UInt8) :: t).takeWhile noFeed ++ ((35 : UInt8) :: t).dropWhile noFeed := (List.takeWhile_append_dropWhile).symm
        have e2 : ((35 : UInt8) :: t).dropWhile noFeed = t.dropWhile noFeed := by rw [List.dropWhile_cons, if_pos (by decide +kernel)]
        have e3 : ((35 : UInt8) :: t).takeWhile noFeed = 35 :: t.takeWhile noFeed := by rw [List.takeWhile_cons, if_pos (by decide +kernel)]
        have hd := dropWhile_le noFeed t
        rw [e2] at e1 ⊢
        rw [ih _ (by omega)]
        conv => rhs; rw [e1]
        rw [splitL_app 10 _ _ (fun x hx => feed_ne x (takeWhile_all noFeed _ x hx)), e3]
        refine (goH_join _ _ _ _ _ _ ?_).symm
        intro x r hx
        have hx0 : x = [] := by
          cases hq : t.dropWhile noFeed with
          | nil => rw [hq, splitL] at hx; injection hx with h1 _; exact h1.symm
          | cons a b =>
            have ha := dropWhile_head noFeed t a b hq
            have : a = 10 := (kb_two a).1 (by simpa [noFeed] using ha)
            subst this
            rw [hq, splitL_hit] at hx
            injection hx with h1 _; exact h1.symm
        subst hx0
        rw [List.cons_append, wordsL_hash, wordsL_nil]
      · rw [lexF_word _ _ _ _ h]
        have e1 : c :: t = (c :: t).takeWhile isPlain ++ (c :: t).dropWhile isPlain := (List.takeWhile_append_dropWhile).symm
        have hpl : isPlain c = true := by rw [isPlain, h]; rfl
        have e2 : (c :: t).dropWhile isPlain = t.dropWhile isPlain := by rw [List.dropWhile_cons, if_pos hpl]
        have e3 : (c :: t).takeWhile isPlain = c :: t.takeWhile isPlain := by rw [List.takeWhile_cons, if_pos hpl]
        have hd := dropWhile_le isPlain t
        have hall := takeWhile_all isPlain (c :: t)
        rw [e2] at e1 ⊢
        rw [ih _ (by omega)]
        conv => rhs; rw [e1]
        rw [splitL_app 10 _ _ (fun x hx => (plain_ne x (hall x hx)).1)]
        refine (goH_join _ _ _ _ _ _ ?_).symm
        intro x r hx
        have hst : stops x := by
          intro a b hab
          cases hq : t.dropWhile isPlain with
          | nil => rw [hq, splitL] at hx; injection hx with h1 _; rw [← h1] at hab; cases hab
          | cons a' b' =>
            have ha := dropWhile_head isPlain t a' b' hq
            by_cases h10 : a' = 10
            · subst h10
              rw [hq, splitL_hit] at hx
              injection hx with h1 _; rw [← h1] at hab; cases hab
            · rw [hq, splitL_cons _ _ _ h10] at hx
              have hne := splitL_ne 10 b'
              cases hs : splitL 10 b' with
              | nil => exact absurd hs hne
              | cons y z =>
                rw [hs, joinHead, List.singleton_append] at hx
                injection hx with h1 _
                rw [hab] at h1
                injection h1 with h1 _
                subst h1
                exact ⟨ha, fun e => h10 ((kb_two _).1 e)⟩
        rw [wordsL_word _ _ (by rw [e3]; simp) hall hst, List.append_assoc, List.singleton_append]
        rfl
theorem lexF_goL (l : List UInt8) : lexF l [] [] = goL (splitL 10 l) [] := by
  rw [lexF_goH l.length l (Nat.le_refl _), goH_nil _ (splitL_ne _ _)]
end Go.Proofs.YtlghkomipboflaaDoor
end
section
namespace Go.Proofs.YtlghkomipboflaaDoor
open Go.RowKit Go.Proofs.YtlghkomipboflaaDoor.X Go.Proofs.YtlghkomipboflaaDoorW.PrintWords Go.Proofs.YtlghkomipboflaaDoorW.PrintLast
set_option linter.unusedVariables false
set_option linter.unusedSimpArgs false
def markL (l : List UInt8) (c : Int) : Int × Int := match l with
  | [] => (0, 10)
  | x :: t => if (x.toNat : Int) = c then smallL t 999 else (0, 10)
theorem ext_one (s : ByteArray) (x t) (h : s.data.toList = x :: t) : (s.extract 1 s.size).data.toList = t := by
  have hs : s.size = t.length + 1 := by have : s.data.toList.length = s.size := by simp
                                        rw [h] at this; simpa using this.symm
  rw [ext_mk, mkB_data, h, hs]; simp
theorem one_byte (x : UInt8) : (strOfNums [(x.toNat : Int)]) = mkB [x] := by
  revert x
  exact u8_all (by decide +kernel)
theorem hasP_one (s : ByteArray) (x : UInt8) : stringslite_HasPrefix.f s (mkB [x]) = some (decide (s.data.toList.head? = some x)) := by
  have hsz : s.data.toList.length = s.size := by simp
  unfold stringslite_HasPrefix.f
  rw [mkB_size]
  cases h : s.data.toList with
  | nil => rw [h] at hsz; rw [if_neg (by simp at hsz ⊢; omega)]; simp
  | cons a t =>
    have hs : s.size = t.length + 1 := by rw [h] at hsz; simpa using hsz.symm
    rw [if_pos (by simp; omega), if_pos (by simp), if_pos (by simp; omega)]
    have e : (s.extract 0 (((([x] : List UInt8).length : Nat) : Int) : Int).toNat).toList = [a] := by
      rw [ByteArray.toList_eq, ext_mk, mkB_data, h]; simp
    rw [e, mkB_list]
    congr 1
    simp [Bool.beq_eq_decide_eq]
theorem cutP_one (s : ByteArray) (x : UInt8) : strings_CutPrefix.f s (mkB [x]) = some (if s.data.toList.head? = some x then (s.extract 1 s.size, true) else (s, false)) := by
  unfold strings_CutPrefix.f stringslite_CutPrefix.f
  rw [hasP_one, Option.bind_some, mkB_size]
  by_cases h : s.data.toList.head? = some x
  · have hs : 1 ≤ s.size := by
      have hsz : s.data.toList.length = s.size := by simp
      cases hl : s.data.toList with
      | nil => rw [hl] at h; cases h
      | cons a t => rw [hl] at hsz; simp at hsz; omega
    rw [if_pos (by simpa using h), if_pos (by simp), if_pos (by simp; omega), if_pos h]
    rfl
  · rw [if_neg (by simpa using h), if_neg h]
    rfl
theorem progMark (s : ByteArray) (c : UInt8) : Ev (fun k => lex_Mark.f k s (c.toNat : Int)) (markL s.data.toList (c.toNat : Int)) := by
  by_cases h : s.data.toList.head? = some c
  · refine Ev.congr (f := fun k => (num_Small.f k (s.extract 1 s.size) 999).bind fun b => some (b.1, b.2)) (fun k => by simp only [lex_Mark.f]; rw [one_byte, cutP_one, if_pos h, Option.bind_some, if_pos rfl]) ?_
    cases hl : s.data.toList with
    | nil => rw [hl] at h; cases h
    | cons x t =>
      rw [hl] at h
      have hx : x = c := by simpa using h
      subst hx
      have := progSmall (s.extract 1 s.size) 999
      rw [ext_one s x t hl] at this
      refine Ev.bind this (Ev.congr (f := fun _ => some _) (fun k => ?_) (Ev.now _))
      simp [markL]
  · refine Ev.congr (f := fun _ => some (0, 10)) (fun k => by simp only [lex_Mark.f]; rw [one_byte, cutP_one, if_neg h, Option.bind_some, if_neg (by simp)]) (Ev.congr (f := fun _ => some _) (fun k => ?_) (Ev.now _))
    cases hl : s.data.toList with
    | nil => rfl
    | cons x t =>
      rw [hl] at h
      have hx : ¬ (x.toNat : Int) = (c.toNat : Int) := fun e => h (by have : x = c := UInt8.toNat_inj.1 (by omega)
                                                                      rw [this]; rfl)
      simp only [markL]; rw [if_neg hx]
end Go.Proofs.YtlghkomipboflaaDoor
end
section
namespace Go.Proofs.YtlghkomipboflaaDoor.Rd
open Go.RowKit Go.Proofs.YtlghkomipboflaaDoor Go.Proofs.YtlghkomipboflaaDoor.X Go.Proofs.YtlghkomipboflaaDoorW.PrintWords Go.Proofs.YtlghkomipboflaaDoorW.PrintLast Go.Proofs.YtlghkomipboflaaDoorW.PrintMore
set_option linter.unusedVariables false
set_option linter.unusedSimpArgs false
theorem At.lt {wL : World} {ls ws vt vf W} (h : At wL ls ws vt vf W) : wL.heap.size < W.heap.size := by
  obtain ⟨_, _, hr, _⟩ := h.rb
  exact hr.lt
theorem At.later {wL : World} {ls ws vt vf W W1} (h : At wL ls ws vt vf W) (hb : Below W.heap.size W W1) : At wL ls ws vt vf W1 := by
  have hlt := h.lt
  obtain ⟨vl, vw, hr, hl⟩ := h.rb
  exact ⟨h.below.trans (hb.mono (Nat.le_of_lt hlt)), vl, vw, hr.of_block (hb.block _ hlt), hl⟩
theorem At.moved {wL : World} {ls ws vt vf W W1} (h : At wL ls ws vt vf W) (hb : Below wL.heap.size W W1) (hg : W1.heap[wL.heap.size]? = W.heap[wL.heap.size]?) : At wL ls ws vt vf W1 := by
  obtain ⟨vl, vw, hr, hl⟩ := h.rb
  exact ⟨h.below.trans hb, vl, vw, hr.of_block hg, hl⟩
theorem Same.later {wL w w1 w2 : World} (h : Same wL w w1) (hb : Below w1.heap.size w1 w2) : Same wL w w2 := h.trans (KeepBut.of_below hb _ _) (.inl rfl)
theorem Same.also {wL w w1 w2 : World} (h : Same wL w w1) (hb : Same wL w1 w2) : Same wL w w2 := KeepBut.trans h hb (.inl rfl)
theorem Same.now (wL w : World) : Same wL w w := KeepBut.refl _ _ _
theorem Same.next {wL w w1 : World} (hb : Below w.heap.size w w1) : Same wL w w1 := KeepBut.of_below hb _ _
def mk1 (c : Int) (x : ByteArray) : Option Int := if (markL x.data.toList c).2 = 0 then some (markL x.data.toList c).1 else none
def sm1 (x : ByteArray) : Option Int := if (smallL x.data.toList 999).2 = 0 then some (smallL x.data.toList 999).1 else none
theorem mark_call (x : ByteArray) (c : Int) (h0 : 0 ≤ c) (h1 : c < 256) (r1 r2 : Int) (hr : markL x.data.toList c = (r1, r2)) (w : World) :
    Calls Tryd.prog 73 #[.string x, .int .u8 c] w fun e w' => e = .returned (.tuple #[.int .i64 r1, .int .i64 r2]) ∧ Below w.heap.size w w' := by
  have hc : c = ((UInt8.ofNat c.toNat).toNat : Int) := by
    rw [UInt8.toNat_ofNat']; omega
  obtain ⟨k, hk⟩ := (progMark x (UInt8.ofNat c.toNat)).rounds
  rw [← hc, hr] at hk
  exact lex_Mark.calls k x c r1 r2 w hk
theorem small_call (x : ByteArray) (r1 r2 : Int) (hr : smallL x.data.toList 999 = (r1, r2)) (w : World) :
    Calls Tryd.prog 74 #[.string x, .int .i64 999] w fun e w' => e = .returned (.tuple #[.int .i64 r1, .int .i64 r2]) ∧ Below w.heap.size w w' := by
  obtain ⟨k, hk⟩ := (progSmall x 999).rounds
  rw [hr] at hk
  exact num_Small.calls k x 999 r1 r2 w hk
theorem mark_none (wL : World) (ls : List (List ByteArray)) (c : Int) (vt vf : Value) (w : World) (h : At wL ls [] vt vf w) :
    Calls Tryd.prog 52 #[.pointer (some ⟨wL.heap.size, 0, none⟩), .int .u8 c] w (Gone wL w) := by
  have H := Lib.hid h
  clear h
  go_enter Tryd.func52, Tryd.ntmps52
  go_wp2_with (go_at_call 34; refine (word_bad wL ls vt vf _ H.out).mono ?_; rintro e w' ⟨rfl, hb⟩)
  exact ⟨rfl, rfl, hb⟩
theorem mark_bad (wL : World) (ls : List (List ByteArray)) (x : ByteArray) (ws : List ByteArray) (c : Int) (h0 : 0 ≤ c) (h1 : c < 256) (hm : mk1 c x = none) (vt vf : Value) (w : World) (h : At wL ls (x :: ws) vt vf w) :
    Calls Tryd.prog 52 #[.pointer (some ⟨wL.heap.size, 0, none⟩), .int .u8 c] w (Gone wL w) := by
  obtain ⟨r1, r2, hr⟩ : ∃ r1 r2, markL x.data.toList c = (r1, r2) := ⟨_, _, rfl⟩
  have hne : (r2 == 0) = false := by
    rw [beq_eq_false_iff_ne]; intro e
    unfold mk1 at hm
    rw [hr, if_pos e] at hm; cases hm
  have H := Lib.hid h
  have HC := Lib.hid (fun W => mark_call x c h0 h1 r1 r2 hr W)
  clear h hm hr
  go_enter Tryd.func52, Tryd.ntmps52
  go_wp2_with (first
    | (go_at_call 34; refine (word_ok wL ls x ws vt vf _ H.out).mono ?_; rintro e w' ⟨rfl, ha, hs⟩; have HA := Lib.hid ha; have HS := Lib.hid hs; clear ha hs)
    | (go_at_call 73; refine (HC.out _).mono ?_; rintro e w2 ⟨rfl, hb⟩; have HB := Lib.hid hb; clear hb)
    | (go_at_call 36; refine (need_no _).mono ?_; rintro e w3 ⟨rfl, hw⟩; rw [hw]))
  exact ⟨rfl, rfl, (HA.out.later HB.out).below⟩
theorem mark_ok (wL : World) (ls : List (List ByteArray)) (x : ByteArray) (ws : List ByteArray) (c : Int) (h0 : 0 ≤ c) (h1 : c < 256) (n : Int) (hm : mk1 c x = some n) (vt vf : Value) (w : World) (h : At wL ls (x :: ws) vt vf w) :
    Calls Tryd.prog 52 #[.pointer (some ⟨wL.heap.size, 0, none⟩), .int .u8 c] w fun e w' => e = .returned (.int .i64 n) ∧ At wL ls ws vt vf w' ∧ Same wL w w' := by
  have hr : markL x.data.toList c = (n, 0) := by
    unfold mk1 at hm
    split at hm
    · rename_i h0
      injection hm with hm
      exact Prod.ext hm h0
    · cases hm
  have H := Lib.hid h
  have HC := Lib.hid (fun W => mark_call x c h0 h1 n 0 hr W)
  clear h hm hr
  go_enter Tryd.func52, Tryd.ntmps52
  go_wp2_with (first
    | (go_at_call 34; refine (word_ok wL ls x ws vt vf _ H.out).mono ?_; rintro e w' ⟨rfl, ha, hs⟩; have HA := Lib.hid ha; have HS := Lib.hid hs; clear ha hs)
    | (go_at_call 73; refine (HC.out _).mono ?_; rintro e w2 ⟨rfl, hb⟩; have HB := Lib.hid hb; clear hb)
    | (go_at_call 36; refine (need_yes _).mono ?_; rintro e w3 ⟨rfl, hw⟩; rw [hw]))
  go_ret
  exact ⟨rfl, HA.out.later HB.out, HS.out.later HB.out⟩
theorem small_none (wL : World) (ls : List (List ByteArray)) (vt vf : Value) (w : World) (h : At wL ls [] vt vf w) :
    Calls Tryd.prog 54 #[.pointer (some ⟨wL.heap.size, 0, none⟩)] w (Gone wL w) := by
  have H := Lib.hid h
  clear h
  go_enter Tryd.func54, Tryd.ntmps54
  go_wp2_with (go_at_call 34; refine (word_bad wL ls vt vf _ H.out).mono ?_; rintro e w' ⟨rfl, hb⟩)
  exact ⟨rfl, rfl, hb⟩
theorem small_bad (wL : World) (ls : List (List ByteArray)) (x : ByteArray) (ws : List ByteArray) (hm : sm1 x = none) (vt vf : Value) (w : World) (h : At wL ls (x :: ws) vt vf w) :
    Calls Tryd.prog 54 #[.pointer (some ⟨wL.heap.size, 0, none⟩)] w (Gone wL w) := by
  obtain ⟨r1, r2, hr⟩ : ∃ r1 r2, smallL x.data.toList 999 = (r1, r2) := ⟨_, _, rfl⟩
  have hne : (r2 == 0) = false := by
    rw [beq_eq_false_iff_ne]; intro e
    unfold sm1 at hm
    rw [hr, if_pos e] at hm; cases hm
  have H := Lib.hid h
  have HC := Lib.hid (fun W => small_call x r1 r2 hr W)
  clear h hm hr
  go_enter Tryd.func54, Tryd.ntmps54
  go_wp2_with (first
    | (go_at_call 34; refine (word_ok wL ls x ws vt vf _ H.out).mono ?_; rintro e w' ⟨rfl, ha, hs⟩; have HA := Lib.hid ha; have HS := Lib.hid hs; clear ha hs)
    | (go_at_call 74; refine (HC.out _).mono ?_; rintro e w2 ⟨rfl, hb⟩; have HB := Lib.hid hb; clear hb)
    | (go_at_call 36; refine (need_no _).mono ?_; rintro e w3 ⟨rfl, hw⟩; rw [hw]))
  exact ⟨rfl, rfl, (HA.out.later HB.out).below⟩
theorem small_ok (wL : World) (ls : List (List ByteArray)) (x : ByteArray) (ws : List ByteArray) (n : Int) (hm : sm1 x = some n) (vt vf : Value) (w : World) (h : At wL ls (x :: ws) vt vf w) :
    Calls Tryd.prog 54 #[.pointer (some ⟨wL.heap.size, 0, none⟩)] w fun e w' => e = .returned (.int .i64 n) ∧ At wL ls ws vt vf w' ∧ Same wL w w' := by
  have hr : smallL x.data.toList 999 = (n, 0) := by
    unfold sm1 at hm
    split at hm
    · rename_i h0
      injection hm with hm
      exact Prod.ext hm h0
    · cases hm
  have H := Lib.hid h
  have HC := Lib.hid (fun W => small_call x n 0 hr W)
  clear h hm hr
  go_enter Tryd.func54, Tryd.ntmps54
  go_wp2_with (first
    | (go_at_call 34; refine (word_ok wL ls x ws vt vf _ H.out).mono ?_; rintro e w' ⟨rfl, ha, hs⟩; have HA := Lib.hid ha; have HS := Lib.hid hs; clear ha hs)
    | (go_at_call 74; refine (HC.out _).mono ?_; rintro e w2 ⟨rfl, hb⟩; have HB := Lib.hid hb; clear hb)
    | (go_at_call 36; refine (need_yes _).mono ?_; rintro e w3 ⟨rfl, hw⟩; rw [hw]))
  go_ret
  exact ⟨rfl, HA.out.later HB.out, HS.out.later HB.out⟩
theorem At.upon {wL w : World} {ls ws vt vf W W1} (h : At wL ls ws vt vf W) (hb : Below w.heap.size W W1) (hlt : wL.heap.size < w.heap.size) : At wL ls ws vt vf W1 :=
  h.moved (hb.mono (Nat.le_of_lt hlt)) (hb.block _ hlt)
theorem Same.upon {wL w w1 w2 : World} (h : Same wL w w1) (hb : Below w.heap.size w1 w2) : Same wL w w2 :=
  ⟨Nat.le_trans h.1 hb.size, fun i hi hg hr => (hb.block i hi).trans (h.2 i hi hg hr)⟩
def mks (c : Int) : List ByteArray → Option (List Int)
  | [] => some []
  | x :: r => (mk1 c x).bind fun n => (mks c r).map (n :: ·)
theorem info3' : (Tryd.prog.info? 3).map (fun i => (i.zero, i.size, i.bytes)) = some (some (.int .i64 0), 1, 8) := by kernel_rfl
abbrev KI : Kd Int := Kd.int .i64
theorem R_same {α : Type} {d : Kd α} {e base : Nat} {ok : Nat → Prop} {v : Value} {xs : List α} {wL w w1 : World} (h : d.R e w base ok v xs) (hs : Same wL w w1) (hg : wL.heap.size < base) : d.R e w1 base ok v xs :=
  Kd.R_mono (Kd.R_move (Kd.R_bound h) (fun k hk => hs.2 k hk.2.2.1 (by have := hk.2.1; omega) (by simp))) (fun _ hk => hk.1)
set_option maxHeartbeats 1600000 in
theorem marks_ok (wL : World) (ls : List (List ByteArray)) (ws : List ByteArray) (c : Int) (h0 : 0 ≤ c) (h1 : c < 256) (ns : List Int) (hm : mks c ws = some ns) (hw : ws.length ≤ 1000000) (vt vf : Value) (w : World) (h : At wL ls ws vt vf w) :
    Calls Tryd.prog 53 #[.pointer (some ⟨wL.heap.size, 0, none⟩), .int .u8 c] w fun e w' => ∃ v, e = .returned v ∧ KI.R 3 w' w.heap.size (fun _ => True) v ns ∧ At wL ls [] vt vf w' ∧ Same wL w w' := by
  have H := Lib.hid h
  have HM := Lib.hid hm
  have hlt := h.lt
  clear h hm
  go_enter Tryd.func53, Tryd.ntmps53
  go_wp2
  go_loopg [4] ws.length (fun g v4 W => ∃ (rest : List ByteArray) (done : List Int), rest.length = g ∧ Hid ((mks c rest).map (done ++ ·) = some ns) ∧ done.length + rest.length = ws.length ∧ Hid (At wL ls rest vt vf W) ∧ Hid (Same wL w W) ∧ Hid (KI.R 3 W w.heap.size (fun _ => True) v4 done))
  case atStart => exact ⟨ws, [], rfl, (show _ = _ by rw [HM.out]; rfl), by simp, H.out, Same.now _ _, Kd.R_nil _ _ _ _ _⟩
  case round =>
    obtain ⟨rest, done, hg, HQ, hlen, HA, HS, HR⟩ := hrel
    obtain ⟨vl, vw, hr, _, ⟨A, cc, rfl, _, _⟩⟩ := HA.out.rb
    have c1 := hr.c1
    clear hr
    subst hg
    cases rest with
    | nil =>
      have hd : done = ns := by have := HQ.out; simpa [mks] using this
      have HD := Lib.hid hd
      clear hd
      go_wp2
      go_ret
      exact ⟨_, rfl, by rw [← HD.out]; exact HR.out, HA.out, HS.out⟩
    | cons x r =>
      obtain ⟨n, hn⟩ : ∃ n, mk1 c x = some n := by
        cases hx : mk1 c x with
        | some n => exact ⟨n, rfl⟩
        | none => have := HQ.out; simp [mks, hx] at this
      have hq : (mks c r).map ((done ++ [n]) ++ ·) = some ns := by
        have := HQ.out
        simp only [mks, hn, Option.bind_some, Option.map_map] at this
        rw [← this]
        congr 1
        funext y
        simp
      have HQ2 := Lib.hid hq
      have HN := Lib.hid hn
      clear hq hn
      have n0 : decide (0 < (x :: r).length) = true := decide_eq_true (by simp)
      have n1 : (0 : Int) < ((x :: r).length : Int) := by simp
      have hl2 : done.length + r.length + 1 = ws.length := by simp at hlen; omega
      have hsz := HS.out.1
      clear hlen
      obtain ⟨m, hm⟩ : ∃ m, m = (x :: r).length := ⟨_, rfl⟩
      rw [← hm] at c1 n0 n1
      have HMM := Lib.hid hm
      clear hm
      go_wp2_with (first
        | (go_at_call 52; refine (mark_ok wL ls x r c h0 h1 n HN.out vt vf _ HA.out).mono ?_; rintro e w1 ⟨rfl, ha, hs⟩; have HA1 := Lib.hid ha; have HS1 := Lib.hid hs; have HR1 := Lib.hid (R_same HR.out hs hlt); have hsz1 : w.heap.size ≤ w1.heap.size := Nat.le_trans hsz hs.1; clear ha hs)
        | (at_builtin; refine Kd.R_append KI (w0 := w1) w.heap.size rfl (.tmp 11) (.tmp 15) 37 3 (.int .i64 0) 8 rfl Tryd.underlying37 info3' rfl (by decide) (by omega) _ done n [.int .i64 n] (fun _ => True) (fun _ => False) rfl rfl ?aP (fun _ hk => hk.elim) ?aF ?aO ?aB ?aS ?aL ?_; (case aP => exact rfl); (case aF => exact (fun _ _ => trivial)); (case aO => exact HR1.out); (case aB => exact Below.refl _ _); (case aS => exact hsz1); (case aL => omega); intro v1 w2 ho hb hg2 hat; have HO := Lib.hid ho; have HB2 := Lib.hid hb; clear ho hb hg2 hat))
      go_roundg r.length
      case measure => simp
      case rel => exact ⟨r, done ++ [n], rfl, HQ2.out, by simp; omega, HA1.out.upon HB2.out hlt, (HS.out.also HS1.out).upon HB2.out, HO.out⟩
set_option maxHeartbeats 1600000 in
theorem marks_bad (wL : World) (ls : List (List ByteArray)) (ws : List ByteArray) (c : Int) (h0 : 0 ≤ c) (h1 : c < 256) (hm : mks c ws = none) (hw : ws.length ≤ 1000000) (vt vf : Value) (w : World) (h : At wL ls ws vt vf w) :
    Calls Tryd.prog 53 #[.pointer (some ⟨wL.heap.size, 0, none⟩), .int .u8 c] w (Gone wL w) := by
  have H := Lib.hid h
  have HM := Lib.hid hm
  have hlt := h.lt
  clear h hm
  go_enter Tryd.func53, Tryd.ntmps53
  go_wp2
  go_loopg [4] ws.length (fun g v4 W => ∃ (rest : List ByteArray) (done : List Int), rest.length = g ∧ Hid (mks c rest = none) ∧ done.length + rest.length = ws.length ∧ Hid (At wL ls rest vt vf W) ∧ Hid (Same wL w W) ∧ Hid (KI.R 3 W w.heap.size (fun _ => True) v4 done))
  case atStart => exact ⟨ws, [], rfl, HM.out, by simp, H.out, Same.now _ _, Kd.R_nil _ _ _ _ _⟩
  case round =>
    obtain ⟨rest, done, hg, HQ, hlen, HA, HS, HR⟩ := hrel
    obtain ⟨vl, vw, hr, _, ⟨A, cc, rfl, _, _⟩⟩ := HA.out.rb
    have c1 := hr.c1
    clear hr
    subst hg
    cases rest with
    | nil =>
      exact absurd HQ.out (by simp [mks])
    | cons x r =>
      have n0 : decide (0 < (x :: r).length) = true := decide_eq_true (by simp)
      have n1 : (0 : Int) < ((x :: r).length : Int) := by simp
      have hl2 : done.length + r.length + 1 = ws.length := by simp at hlen; omega
      have hsz := HS.out.1
      clear hlen
      obtain ⟨m, hm⟩ : ∃ m, m = (x :: r).length := ⟨_, rfl⟩
      rw [← hm] at c1 n0 n1
      have HMM := Lib.hid hm
      clear hm
      cases hx : mk1 c x with
      | none =>
        have HN := Lib.hid hx
        clear hx
        go_wp2_with (go_at_call 52; refine (mark_bad wL ls x r c h0 h1 HN.out vt vf _ HA.out).mono ?_; rintro e w1 ⟨rfl, hb⟩)
        exact ⟨rfl, rfl, hb⟩
      | some n =>
        have HN := Lib.hid hx
        have HQ2 := Lib.hid (show mks c r = none by
          have := HQ.out
          simp only [mks, hx, Option.bind_some, Option.map_eq_none_iff] at this
          exact this)
        clear hx
        go_wp2_with (first
          | (go_at_call 52; refine (mark_ok wL ls x r c h0 h1 n HN.out vt vf _ HA.out).mono ?_; rintro e w1 ⟨rfl, ha, hs⟩; have HA1 := Lib.hid ha; have HS1 := Lib.hid hs; have HR1 := Lib.hid (R_same HR.out hs hlt); have hsz1 : w.heap.size ≤ w1.heap.size := Nat.le_trans hsz hs.1; clear ha hs)
          | (at_builtin; refine Kd.R_append KI (w0 := w1) w.heap.size rfl (.tmp 11) (.tmp 15) 37 3 (.int .i64 0) 8 rfl Tryd.underlying37 info3' rfl (by decide) (by omega) _ done n [.int .i64 n] (fun _ => True) (fun _ => False) rfl rfl ?aP (fun _ hk => hk.elim) ?aF ?aO ?aB ?aS ?aL ?_; (case aP => exact rfl); (case aF => exact (fun _ _ => trivial)); (case aO => exact HR1.out); (case aB => exact Below.refl _ _); (case aS => exact hsz1); (case aL => omega); intro v1 w2 ho hb hg2 hat; have HO := Lib.hid ho; have HB2 := Lib.hid hb; clear ho hb hg2 hat))
        go_roundg r.length
        case measure => simp
        case rel => exact ⟨r, done ++ [n], rfl, HQ2.out, by simp; omega, HA1.out.upon HB2.out hlt, (HS.out.also HS1.out).upon HB2.out, HO.out⟩
def mkN (c : Int) : List ByteArray → Option (Int × List ByteArray)
  | [] => none
  | x :: r => (mk1 c x).map fun n => (n, r)
def smN : List ByteArray → Option (Int × List ByteArray)
  | [] => none
  | x :: r => (sm1 x).map fun n => (n, r)
theorem mark_fail (wL : World) (ls : List (List ByteArray)) (ws : List ByteArray) (c : Int) (h0 : 0 ≤ c) (h1 : c < 256) (hm : mkN c ws = none) (vt vf : Value) (w : World) (h : At wL ls ws vt vf w) :
    Calls Tryd.prog 52 #[.pointer (some ⟨wL.heap.size, 0, none⟩), .int .u8 c] w (Gone wL w) := by
  cases ws with
  | nil => exact mark_none wL ls c vt vf w h
  | cons x r => exact mark_bad wL ls x r c h0 h1 (by simpa [mkN] using hm) vt vf w h
theorem mark_take (wL : World) (ls : List (List ByteArray)) (ws : List ByteArray) (c : Int) (h0 : 0 ≤ c) (h1 : c < 256) (n : Int) (r : List ByteArray) (hm : mkN c ws = some (n, r)) (vt vf : Value) (w : World) (h : At wL ls ws vt vf w) :
    Calls Tryd.prog 52 #[.pointer (some ⟨wL.heap.size, 0, none⟩), .int .u8 c] w fun e w' => e = .returned (.int .i64 n) ∧ At wL ls r vt vf w' ∧ Same wL w w' := by
  cases ws with
  | nil => cases hm
  | cons x r' =>
    simp only [mkN, Option.map_eq_some_iff] at hm
    obtain ⟨m, hm, he⟩ := hm
    injection he with h2 h3
    subst h2; subst h3
    exact mark_ok wL ls x r' c h0 h1 m hm vt vf w h
theorem small_fail (wL : World) (ls : List (List ByteArray)) (ws : List ByteArray) (hm : smN ws = none) (vt vf : Value) (w : World) (h : At wL ls ws vt vf w) :
    Calls Tryd.prog 54 #[.pointer (some ⟨wL.heap.size, 0, none⟩)] w (Gone wL w) := by
  cases ws with
  | nil => exact small_none wL ls vt vf w h
  | cons x r => exact small_bad wL ls x r (by simpa [smN] using hm) vt vf w h
theorem small_take (wL : World) (ls : List (List ByteArray)) (ws : List ByteArray) (n : Int) (r : List ByteArray) (hm : smN ws = some (n, r)) (vt vf : Value) (w : World) (h : At wL ls ws vt vf w) :
    Calls Tryd.prog 54 #[.pointer (some ⟨wL.heap.size, 0, none⟩)] w fun e w' => e = .returned (.int .i64 n) ∧ At wL ls r vt vf w' ∧ Same wL w w' := by
  cases ws with
  | nil => cases hm
  | cons x r' =>
    simp only [smN, Option.map_eq_some_iff] at hm
    obtain ⟨m, hm, he⟩ := hm
    injection he with h2 h3
    subst h2; subst h3
    exact small_ok wL ls x r' m hm vt vf w h
end Go.Proofs.YtlghkomipboflaaDoor.Rd
end
section
namespace Go.Proofs.YtlghkomipboflaaDoor.Rd
open Go.RowKit Go.Proofs.YtlghkomipboflaaDoor Go.Proofs.YtlghkomipboflaaDoor.X Go.Proofs.YtlghkomipboflaaDoorW.PrintWords Go.Proofs.YtlghkomipboflaaDoorW.PrintLast Go.Proofs.YtlghkomipboflaaDoorW.PrintMore
set_option linter.unusedVariables false
set_option linter.unusedSimpArgs false
theorem At.set {wL : World} {ls ws vt vf W} (h : At wL ls ws vt vf W) {b : Nat} (hb : wL.heap.size < b) (j : Nat) (v : Value) : At wL ls ws vt vf (W.setCell ⟨b, j, none⟩ v) :=
  h.moved ((Below.refl _ _).setCell (Nat.le_of_lt hb) _) (Below.heap_setCell W ⟨b, j, none⟩ v _ (by simp; omega))
theorem At.alloc {wL : World} {ls ws vt vf W} (h : At wL ls ws vt vf W) (o : Obj) : At wL ls ws vt vf (W.alloc o) := h.later (below_alloc (Below.refl _ _) o)
theorem At.drewN {wL : World} {ls ws vt vf W} (h : At wL ls ws vt vf W) (n : Nat) : At wL ls ws vt vf (W.drewN n) := h.later (pw_below_drewN (Below.refl _ _) n)
theorem Same.set {wL w W : World} (h : Same wL w W) {b : Nat} (hb : w.heap.size ≤ b) (j : Nat) (v : Value) : Same wL w (W.setCell ⟨b, j, none⟩ v) :=
  h.upon ((Below.refl _ _).setCell hb _)
theorem Same.alloc {wL w W : World} (h : Same wL w W) (o : Obj) : Same wL w (W.alloc o) := h.upon ((Below.refl _ _).alloc h.1 _)
theorem R_on {α : Type} {d : Kd α} {e base : Nat} {ok : Nat → Prop} {v : Value} {xs : List α} {W : World} (h : d.R e W base ok v xs) {b : Nat} (hb : b < base) (j : Nat) (u : Value) : d.R e (W.setCell ⟨b, j, none⟩ u) base ok v xs :=
  Kd.R_mono (Kd.R_far (p := ⟨b, j, none⟩) (Kd.R_bound h) (fun k hk => by have := hk.2.1; show k ≠ b; omega) u) (fun _ hk => hk.1)
def KB (b : Nat) (a0 a1 a2 a3 : Value) (W : World) : Prop := W.heap[b]? = some (.cells #[a0, a1, a2, a3] 41 (0, 0))
theorem KB.c0 {g vl vw vt vf W} (h : KB g vl vw vt vf W) : W.cell? ⟨g, 0, none⟩ = some vl := by unfold KB at h; simp [World.cell?, h]
theorem KB.c1 {g vl vw vt vf W} (h : KB g vl vw vt vf W) : W.cell? ⟨g, 1, none⟩ = some vw := by unfold KB at h; simp [World.cell?, h]
theorem KB.c2 {g vl vw vt vf W} (h : KB g vl vw vt vf W) : W.cell? ⟨g, 2, none⟩ = some vt := by unfold KB at h; simp [World.cell?, h]
theorem KB.c3 {g vl vw vt vf W} (h : KB g vl vw vt vf W) : W.cell? ⟨g, 3, none⟩ = some vf := by unfold KB at h; simp [World.cell?, h]
theorem KB.fz {g vl vw vt vf W} (h : KB g vl vw vt vf W) (j : Nat) : W.frozen? ⟨g, j, none⟩ = false := by unfold KB at h; simp [World.frozen?, h]
theorem KB.set0 {g vl vw vt vf W} (h : KB g vl vw vt vf W) (v : Value) : KB g v vw vt vf (W.setCell ⟨g, 0, none⟩ v) := by unfold KB at h ⊢; rw [heap_set h]; rfl
theorem KB.set1 {g vl vw vt vf W} (h : KB g vl vw vt vf W) (v : Value) : KB g vl v vt vf (W.setCell ⟨g, 1, none⟩ v) := by unfold KB at h ⊢; rw [heap_set h]; rfl
theorem KB.set2 {g vl vw vt vf W} (h : KB g vl vw vt vf W) (v : Value) : KB g vl vw v vf (W.setCell ⟨g, 2, none⟩ v) := by unfold KB at h ⊢; rw [heap_set h]; rfl
theorem KB.set3 {g vl vw vt vf W} (h : KB g vl vw vt vf W) (v : Value) : KB g vl vw vt v (W.setCell ⟨g, 3, none⟩ v) := by unfold KB at h ⊢; rw [heap_set h]; rfl
theorem KB.same {wL : World} {g vl vw vt vf W W1} (h : KB g vl vw vt vf W) (hs : Same wL W W1) (hg : wL.heap.size < g) : KB g vl vw vt vf W1 := by
  unfold KB at h ⊢
  rw [hs.2 g (blk_lt h) (by omega) (by simp), h]
abbrev Ty : Type := S41
def KindPost (wL : World) (ls : List (List ByteArray)) (r : List ByteArray) (vt vf : Value) (w : World) (t : Ty) (e : Ending) (w' : World) : Prop :=
  ∃ v3, e = .returned (.agg #[.int .u8 t.f0, .int .i64 t.f1, .int .i64 t.f2, v3]) ∧ KI.R 3 w' w.heap.size (fun _ => True) v3 t.f3 ∧ At wL ls r vt vf w' ∧ Same wL w w'
theorem set_size (W : World) (p : Addr) (v : Value) : (W.setCell p v).heap.size = W.heap.size := by simp [World.setCell]
theorem kind_none (wL : World) (ls : List (List ByteArray)) (vt vf : Value) (w : World) (h : At wL ls [] vt vf w) :
    Calls Tryd.prog 35 #[.pointer (some ⟨wL.heap.size, 0, none⟩)] w (Gone wL w) := by
  have H := Lib.hid h
  clear h
  go_enter Tryd.func35, Tryd.ntmps35
  go_wp2_with (go_at_call 34; refine (word_bad wL ls vt vf _ (H.out.alloc _)).mono ?_; rintro e w' ⟨rfl, hb⟩)
  exact ⟨rfl, rfl, hb⟩
theorem Same.wrap {wL w w1 : World} {o : Obj} (h : Same wL (w.alloc o) w1) : Same wL w w1 := ((Same.now wL w).alloc o).also h
theorem kind_end {wL : World} {ls : List (List ByteArray)} {r : List ByteArray} {vt vf : Value} {w W : World} {t : Ty} {tmps : Array Value} {b : Nat} {v3 : Value} (h2 : tmps.getD 2 undef = .pointer (some ⟨b, 0, none⟩))
    (hk : KB b (.int .u8 t.f0) (.int .i64 t.f1) (.int .i64 t.f2) v3 W) (hr : KI.R 3 W w.heap.size (fun _ => True) v3 t.f3) (ha : At wL ls r vt vf W) (hs : Same wL w W) :
    bodyPost Tryd.prog Tryd.f35 (KindPost wL ls r vt vf w t) Exit.ret { tmps := tmps, defers := [] } W :=
  bodyPost_ret (results_cell_row rfl _ _ b 41 _ (0, 0) _ h2 hk Tryd.underlying41 rfl (by kernel_rfl)) rfl ⟨v3, rfl, hr, ha, hs⟩
set_option maxHeartbeats 1600000 in
theorem kind_int (wL : World) (ls : List (List ByteArray)) (x : ByteArray) (ws : List ByteArray) (hx : x.toList = [105, 110, 116]) (vt vf : Value) (w : World) (h : At wL ls (x :: ws) vt vf w) :
    Calls Tryd.prog 35 #[.pointer (some ⟨wL.heap.size, 0, none⟩)] w (KindPost wL ls ws vt vf w ⟨1, 0, 0, []⟩) := by
  have H := Lib.hid h
  have hlt := h.lt
  have e0 : (x.toList == [105, 110, 116]) = true := by rw [hx]; rfl
  clear h hx
  go_enter Tryd.func35, Tryd.ntmps35
  go_wp2_with (first
    | (go_at_call 34; refine (word_ok wL ls x ws vt vf _ (H.out.alloc _)).mono ?_; rintro e w1 ⟨rfl, ha, hs⟩; have HA := Lib.hid ha; have HS := Lib.hid (Same.wrap hs); have hk : KB w.heap.size _ _ _ _ w1 := KB.same (heap_alloc_new w _) hs hlt; have HK := Lib.hid hk; have hz1 : w.heap.size < w1.heap.size := Nat.lt_of_lt_of_le (by simp) hs.1; have k0 := hk.c0; have k1 := hk.c1; have k2 := hk.c2; have k3 := hk.c3; have z0 := hk.fz 0; have z1 := hk.fz 1; have z2 := hk.fz 2; have z3 := hk.fz 3; clear ha hs hk))
  exact kind_end rfl (((((HK.out.set0 _).set0 _).set1 _).set2 _).set3 _) (Kd.R_nil _ _ _ _ _) (by repeat' (first | (with_reducible refine At.set ?_ hlt _ _) | exact HA.out)) (by repeat' (first | (with_reducible refine Same.set ?_ (Nat.le_refl _) _ _) | exact HS.out))
set_option maxHeartbeats 1600000 in
theorem kind_ptr (wL : World) (ls : List (List ByteArray)) (x : ByteArray) (ws : List ByteArray) (hx : x.toList = [112, 116, 114]) (n : Int) (r : List ByteArray) (hn : mkN 116 ws = some (n, r)) (vt vf : Value) (w : World) (h : At wL ls (x :: ws) vt vf w) :
    Calls Tryd.prog 35 #[.pointer (some ⟨wL.heap.size, 0, none⟩)] w (KindPost wL ls r vt vf w ⟨2, n, 0, []⟩) := by
  have H := Lib.hid h
  have hlt := h.lt
  have e0 : (x.toList == [105, 110, 116]) = false := by rw [hx]; rfl
  have e1 : (x.toList == [112, 116, 114]) = true := by rw [hx]; rfl
  have HN := Lib.hid hn
  clear h hx hn
  go_enter Tryd.func35, Tryd.ntmps35
  go_wp2_with (first
    | (go_at_call 34; refine (word_ok wL ls x ws vt vf _ (H.out.alloc _)).mono ?_; rintro e w1 ⟨rfl, ha, hs⟩; have HA := Lib.hid ha; have HS := Lib.hid (Same.wrap hs); have hk : KB w.heap.size _ _ _ _ w1 := KB.same (heap_alloc_new w _) hs hlt; have HK := Lib.hid hk; have hz1 : w.heap.size < w1.heap.size := Nat.lt_of_lt_of_le (by simp) hs.1; have k0 := hk.c0; have k1 := hk.c1; have k2 := hk.c2; have k3 := hk.c3; have z0 := hk.fz 0; have z1 := hk.fz 1; have z2 := hk.fz 2; have z3 := hk.fz 3; clear ha hs hk)
    | (go_at_call 52; refine (mark_take wL ls ws 116 (by omega) (by omega) n r HN.out vt vf _ HA.out).mono ?_; rintro e w2 ⟨rfl, ha, hs⟩; have HA2 := Lib.hid ha; have HS2 := Lib.hid (HS.out.also hs); have hk2 : KB w.heap.size _ _ _ _ w2 := KB.same HK.out hs hlt; have HK2 := Lib.hid hk2; have hz2 : w.heap.size < w2.heap.size := Nat.lt_of_lt_of_le hz1 hs.1; clear k0 k1 k2 k3 z0 z1 z2 z3; have k0 := hk2.c0; have k1 := hk2.c1; have k2 := hk2.c2; have k3 := hk2.c3; have z0 := hk2.fz 0; have z1 := hk2.fz 1; have z2 := hk2.fz 2; have z3 := hk2.fz 3; clear ha hs hk2))
  exact kind_end rfl ((((((((HK2.out.set0 _).set1 _).set2 _).set3 _).set0 _).set1 _).set2 _).set3 _) (Kd.R_nil _ _ _ _ _) (by repeat' (first | (with_reducible refine At.set ?_ hlt _ _) | exact HA2.out)) (by repeat' (first | (with_reducible refine Same.set ?_ (Nat.le_refl _) _ _) | exact HS2.out))
set_option maxHeartbeats 1600000 in
theorem kind_fn (wL : World) (ls : List (List ByteArray)) (x : ByteArray) (ws : List ByteArray) (hx : x.toList = [102, 110]) (n : Int) (r : List ByteArray) (hn : mkN 116 ws = some (n, r)) (ps : List Int) (hp : mks 116 r = some ps) (hl : r.length ≤ 1000000) (vt vf : Value) (w : World) (h : At wL ls (x :: ws) vt vf w) :
    Calls Tryd.prog 35 #[.pointer (some ⟨wL.heap.size, 0, none⟩)] w (KindPost wL ls [] vt vf w ⟨3, n, 0, ps⟩) := by
  have H := Lib.hid h
  have hlt := h.lt
  have e0 : (x.toList == [105, 110, 116]) = false := by rw [hx]; rfl
  have e1 : (x.toList == [112, 116, 114]) = false := by rw [hx]; rfl
  have e2 : (x.toList == [102, 110]) = true := by rw [hx]; rfl
  have HN := Lib.hid hn
  have HP := Lib.hid hp
  have HL := Lib.hid hl
  clear h hx hn hp hl
  go_enter Tryd.func35, Tryd.ntmps35
  go_wp2_with (first
    | (go_at_call 34; refine (word_ok wL ls x ws vt vf _ (H.out.alloc _)).mono ?_; rintro e w1 ⟨rfl, ha, hs⟩; have HA := Lib.hid ha; have HS := Lib.hid (Same.wrap hs); have hk : KB w.heap.size _ _ _ _ w1 := KB.same (heap_alloc_new w _) hs hlt; have HK := Lib.hid hk; have hz1 : w.heap.size < w1.heap.size := Nat.lt_of_lt_of_le (by simp) hs.1; have k0 := hk.c0; have k1 := hk.c1; have k2 := hk.c2; have k3 := hk.c3; have z0 := hk.fz 0; have z1 := hk.fz 1; have z2 := hk.fz 2; have z3 := hk.fz 3; clear ha hs hk)
    | (go_at_call 52; refine (mark_take wL ls ws 116 (by omega) (by omega) n r HN.out vt vf _ HA.out).mono ?_; rintro e w2 ⟨rfl, ha, hs⟩; have HA2 := Lib.hid ha; have HS2 := Lib.hid (HS.out.also hs); have hk2 : KB w.heap.size _ _ _ _ w2 := KB.same HK.out hs hlt; have HK2 := Lib.hid hk2; have hz2 : w.heap.size < w2.heap.size := Nat.lt_of_lt_of_le hz1 hs.1; clear k0 k1 k2 k3 z0 z1 z2 z3; have k0 := hk2.c0; have k1 := hk2.c1; have k2 := hk2.c2; have k3 := hk2.c3; have z0 := hk2.fz 0; have z1 := hk2.fz 1; have z2 := hk2.fz 2; have z3 := hk2.fz 3; clear ha hs hk2)
    | (go_at_call 53; refine (marks_ok wL ls r 116 (by omega) (by omega) ps HP.out HL.out vt vf _ (by repeat' (first | (with_reducible refine At.set ?_ hlt _ _) | exact HA2.out))).mono ?_; rintro e w3 ⟨v, rfl, hr, ha, hs⟩; obtain ⟨Av, cv, rfl⟩ := Kd.R_slice hr; simp only [set_size] at hr; have HR3 := Lib.hid hr; have HA3 := Lib.hid ha; have HS3 := Lib.hid (Same.also ((((Same.set (Same.set (Same.set (Same.set HS2.out (Nat.le_refl _) _ _) (Nat.le_refl _) _ _) (Nat.le_refl _) _ _) (Nat.le_refl _) _ _)))) hs); have hk3 : KB w.heap.size _ _ _ _ w3 := KB.same ((((HK2.out.set0 _).set1 _).set2 _).set3 _) hs hlt; have HK3 := Lib.hid hk3; clear k0 k1 k2 k3 z0 z1 z2 z3; have k0 := hk3.c0; have k1 := hk3.c1; have k2 := hk3.c2; have k3 := hk3.c3; have z0 := hk3.fz 0; have z1 := hk3.fz 1; have z2 := hk3.fz 2; have z3 := hk3.fz 3; clear ha hs hk3 hr))
  exact kind_end rfl (((((HK3.out.set3 _).set0 _).set1 _).set2 _).set3 _) (by refine Kd.R_lower (base := w2.heap.size) ?_ (Nat.le_of_lt hz2); repeat' (first | (with_reducible refine R_on ?_ hz2 _ _) | exact HR3.out)) (by repeat' (first | (with_reducible refine At.set ?_ hlt _ _) | exact HA3.out)) (by repeat' (first | (with_reducible refine Same.set ?_ (Nat.le_refl _) _ _) | exact HS3.out))
set_option maxHeartbeats 1600000 in
theorem kind_struct (wL : World) (ls : List (List ByteArray)) (x : ByteArray) (ws : List ByteArray) (hx : x.toList = [115, 116, 114, 117, 99, 116]) (ps : List Int) (hp : mks 116 ws = some ps) (hl : ws.length ≤ 1000000) (vt vf : Value) (w : World) (h : At wL ls (x :: ws) vt vf w) :
    Calls Tryd.prog 35 #[.pointer (some ⟨wL.heap.size, 0, none⟩)] w (KindPost wL ls [] vt vf w ⟨4, 0, 0, ps⟩) := by
  have H := Lib.hid h
  have hlt := h.lt
  have e0 : (x.toList == [105, 110, 116]) = false := by rw [hx]; rfl
  have e1 : (x.toList == [112, 116, 114]) = false := by rw [hx]; rfl
  have e2 : (x.toList == [102, 110]) = false := by rw [hx]; rfl
  have e3 : (x.toList == [115, 116, 114, 117, 99, 116]) = true := by rw [hx]; rfl
  have HP := Lib.hid hp
  have HL := Lib.hid hl
  clear h hx hp hl
  go_enter Tryd.func35, Tryd.ntmps35
  go_wp2_with (first
    | (go_at_call 34; refine (word_ok wL ls x ws vt vf _ (H.out.alloc _)).mono ?_; rintro e w1 ⟨rfl, ha, hs⟩; have HA := Lib.hid ha; have HS := Lib.hid (Same.wrap hs); have hk : KB w.heap.size _ _ _ _ w1 := KB.same (heap_alloc_new w _) hs hlt; have HK := Lib.hid hk; have hz1 : w.heap.size < w1.heap.size := Nat.lt_of_lt_of_le (by simp) hs.1; have k0 := hk.c0; have k1 := hk.c1; have k2 := hk.c2; have k3 := hk.c3; have z0 := hk.fz 0; have z1 := hk.fz 1; have z2 := hk.fz 2; have z3 := hk.fz 3; clear ha hs hk)
    | (go_at_call 53; refine (marks_ok wL ls ws 116 (by omega) (by omega) ps HP.out HL.out vt vf _ HA.out).mono ?_; rintro e w3 ⟨v, rfl, hr, ha, hs⟩; obtain ⟨Av, cv, rfl⟩ := Kd.R_slice hr; have HR3 := Lib.hid hr; have HA3 := Lib.hid ha; have HS3 := Lib.hid (HS.out.also hs); have hk3 : KB w.heap.size _ _ _ _ w3 := KB.same HK.out hs hlt; have HK3 := Lib.hid hk3; clear k0 k1 k2 k3 z0 z1 z2 z3; have k0 := hk3.c0; have k1 := hk3.c1; have k2 := hk3.c2; have k3 := hk3.c3; have z0 := hk3.fz 0; have z1 := hk3.fz 1; have z2 := hk3.fz 2; have z3 := hk3.fz 3; clear ha hs hk3 hr))
  exact kind_end rfl ((((((((HK3.out.set0 _).set1 _).set2 _).set3 _).set0 _).set1 _).set2 _).set3 _) (by refine Kd.R_lower (base := w1.heap.size) ?_ (Nat.le_of_lt hz1); repeat' (first | (with_reducible refine R_on ?_ hz1 _ _) | exact HR3.out)) (by repeat' (first | (with_reducible refine At.set ?_ hlt _ _) | exact HA3.out)) (by repeat' (first | (with_reducible refine Same.set ?_ (Nat.le_refl _) _ _) | exact HS3.out))
set_option maxHeartbeats 1600000 in
theorem kind_array (wL : World) (ls : List (List ByteArray)) (x : ByteArray) (ws : List ByteArray) (hx : x.toList = [97, 114, 114, 97, 121]) (n : Int) (r : List ByteArray) (hn : mkN 116 ws = some (n, r)) (m : Int) (r2 : List ByteArray) (hp : smN r = some (m, r2)) (vt vf : Value) (w : World) (h : At wL ls (x :: ws) vt vf w) :
    Calls Tryd.prog 35 #[.pointer (some ⟨wL.heap.size, 0, none⟩)] w (KindPost wL ls r2 vt vf w ⟨5, n, m, []⟩) := by
  have H := Lib.hid h
  have hlt := h.lt
  have e0 : (x.toList == [105, 110, 116]) = false := by rw [hx]; rfl
  have e1 : (x.toList == [112, 116, 114]) = false := by rw [hx]; rfl
  have e2 : (x.toList == [102, 110]) = false := by rw [hx]; rfl
  have e3 : (x.toList == [115, 116, 114, 117, 99, 116]) = false := by rw [hx]; rfl
  have e4 : (x.toList == [97, 114, 114, 97, 121]) = true := by rw [hx]; rfl
  have HN := Lib.hid hn
  have HP := Lib.hid hp
  clear h hx hn hp
  go_enter Tryd.func35, Tryd.ntmps35
  go_wp2_with (first
    | (go_at_call 34; refine (word_ok wL ls x ws vt vf _ (H.out.alloc _)).mono ?_; rintro e w1 ⟨rfl, ha, hs⟩; have HA := Lib.hid ha; have HS := Lib.hid (Same.wrap hs); have hk : KB w.heap.size _ _ _ _ w1 := KB.same (heap_alloc_new w _) hs hlt; have HK := Lib.hid hk; have hz1 : w.heap.size < w1.heap.size := Nat.lt_of_lt_of_le (by simp) hs.1; have k0 := hk.c0; have k1 := hk.c1; have k2 := hk.c2; have k3 := hk.c3; have z0 := hk.fz 0; have z1 := hk.fz 1; have z2 := hk.fz 2; have z3 := hk.fz 3; clear ha hs hk)
    | (go_at_call 52; refine (mark_take wL ls ws 116 (by omega) (by omega) n r HN.out vt vf _ HA.out).mono ?_; rintro e w2 ⟨rfl, ha, hs⟩; have HA2 := Lib.hid ha; have HS2 := Lib.hid (HS.out.also hs); have hk2 : KB w.heap.size _ _ _ _ w2 := KB.same HK.out hs hlt; have HK2 := Lib.hid hk2; have hz2 : w.heap.size < w2.heap.size := Nat.lt_of_lt_of_le hz1 hs.1; clear k0 k1 k2 k3 z0 z1 z2 z3; have k0 := hk2.c0; have k1 := hk2.c1; have k2 := hk2.c2; have k3 := hk2.c3; have z0 := hk2.fz 0; have z1 := hk2.fz 1; have z2 := hk2.fz 2; have z3 := hk2.fz 3; clear ha hs hk2)
    | (go_at_call 54; refine (small_take wL ls r m r2 HP.out vt vf _ (by repeat' (first | (with_reducible refine At.set ?_ hlt _ _) | exact HA2.out))).mono ?_; rintro e w3 ⟨rfl, ha, hs⟩; have HA3 := Lib.hid ha; have HS3 := Lib.hid (Same.also ((((Same.set (Same.set (Same.set (Same.set HS2.out (Nat.le_refl _) _ _) (Nat.le_refl _) _ _) (Nat.le_refl _) _ _) (Nat.le_refl _) _ _)))) hs); have hk3 : KB w.heap.size _ _ _ _ w3 := KB.same ((((HK2.out.set0 _).set1 _).set2 _).set3 _) hs hlt; have HK3 := Lib.hid hk3; clear k0 k1 k2 k3 z0 z1 z2 z3; have k0 := hk3.c0; have k1 := hk3.c1; have k2 := hk3.c2; have k3 := hk3.c3; have z0 := hk3.fz 0; have z1 := hk3.fz 1; have z2 := hk3.fz 2; have z3 := hk3.fz 3; clear ha hs hk3))
  exact kind_end rfl (((((HK3.out.set2 _).set0 _).set1 _).set2 _).set3 _) (Kd.R_nil _ _ _ _ _) (by repeat' (first | (with_reducible refine At.set ?_ hlt _ _) | exact HA3.out)) (by repeat' (first | (with_reducible refine Same.set ?_ (Nat.le_refl _) _ _) | exact HS3.out))
set_option maxHeartbeats 1600000 in
theorem kind_ptr_b1 (wL : World) (ls : List (List ByteArray)) (x : ByteArray) (ws : List ByteArray) (hx : x.toList = [112, 116, 114]) (hn : mkN 116 ws = none) (vt vf : Value) (w : World) (h : At wL ls (x :: ws) vt vf w) :
    Calls Tryd.prog 35 #[.pointer (some ⟨wL.heap.size, 0, none⟩)] w (Gone wL w) := by
  have H := Lib.hid h
  have hlt := h.lt
  have e0 : (x.toList == [105, 110, 116]) = false := by rw [hx]; rfl
  have e1 : (x.toList == [112, 116, 114]) = true := by rw [hx]; rfl
  have HN := Lib.hid hn
  clear h hx hn
  go_enter Tryd.func35, Tryd.ntmps35
  go_wp2_with (first
    | (go_at_call 34; refine (word_ok wL ls x ws vt vf _ (H.out.alloc _)).mono ?_; rintro e w1 ⟨rfl, ha, hs⟩; have HA := Lib.hid ha; have HS := Lib.hid (Same.wrap hs); have hk : KB w.heap.size _ _ _ _ w1 := KB.same (heap_alloc_new w _) hs hlt; have HK := Lib.hid hk; have hz1 : w.heap.size < w1.heap.size := Nat.lt_of_lt_of_le (by simp) hs.1; have k0 := hk.c0; have k1 := hk.c1; have k2 := hk.c2; have k3 := hk.c3; have z0 := hk.fz 0; have z1 := hk.fz 1; have z2 := hk.fz 2; have z3 := hk.fz 3; clear ha hs hk)
    | (go_at_call 52; refine (mark_fail wL ls ws 116 (by omega) (by omega) HN.out vt vf _ HA.out).mono ?_; rintro e w2 ⟨rfl, hb⟩))
  exact ⟨rfl, rfl, hb⟩
set_option maxHeartbeats 1600000 in
theorem kind_fn_b1 (wL : World) (ls : List (List ByteArray)) (x : ByteArray) (ws : List ByteArray) (hx : x.toList = [102, 110]) (hn : mkN 116 ws = none) (vt vf : Value) (w : World) (h : At wL ls (x :: ws) vt vf w) :
    Calls Tryd.prog 35 #[.pointer (some ⟨wL.heap.size, 0, none⟩)] w (Gone wL w) := by
  have H := Lib.hid h
  have hlt := h.lt
  have e0 : (x.toList == [105, 110, 116]) = false := by rw [hx]; rfl
  have e1 : (x.toList == [112, 116, 114]) = false := by rw [hx]; rfl
  have e2 : (x.toList == [102, 110]) = true := by rw [hx]; rfl
  have HN := Lib.hid hn
  clear h hx hn
  go_enter Tryd.func35, Tryd.ntmps35
  go_wp2_with (first
    | (go_at_call 34; refine (word_ok wL ls x ws vt vf _ (H.out.alloc _)).mono ?_; rintro e w1 ⟨rfl, ha, hs⟩; have HA := Lib.hid ha; have HS := Lib.hid (Same.wrap hs); have hk : KB w.heap.size _ _ _ _ w1 := KB.same (heap_alloc_new w _) hs hlt; have HK := Lib.hid hk; have hz1 : w.heap.size < w1.heap.size := Nat.lt_of_lt_of_le (by simp) hs.1; have k0 := hk.c0; have k1 := hk.c1; have k2 := hk.c2; have k3 := hk.c3; have z0 := hk.fz 0; have z1 := hk.fz 1; have z2 := hk.fz 2; have z3 := hk.fz 3; clear ha hs hk)
    | (go_at_call 52; refine (mark_fail wL ls ws 116 (by omega) (by omega) HN.out vt vf _ HA.out).mono ?_; rintro e w2 ⟨rfl, hb⟩))
  exact ⟨rfl, rfl, hb⟩
set_option maxHeartbeats 1600000 in
theorem kind_array_b1 (wL : World) (ls : List (List ByteArray)) (x : ByteArray) (ws : List ByteArray) (hx : x.toList = [97, 114, 114, 97, 121]) (hn : mkN 116 ws = none) (vt vf : Value) (w : World) (h : At wL ls (x :: ws) vt vf w) :
    Calls Tryd.prog 35 #[.pointer (some ⟨wL.heap.size, 0, none⟩)] w (Gone wL w) := by
  have H := Lib.hid h
  have hlt := h.lt
  have e0 : (x.toList == [105, 110, 116]) = false := by rw [hx]; rfl
  have e1 : (x.toList == [112, 116, 114]) = false := by rw [hx]; rfl
  have e2 : (x.toList == [102, 110]) = false := by rw [hx]; rfl
  have e3 : (x.toList == [115, 116, 114, 117, 99, 116]) = false := by rw [hx]; rfl
  have e4 : (x.toList == [97, 114, 114, 97, 121]) = true := by rw [hx]; rfl
  have HN := Lib.hid hn
  clear h hx hn
  go_enter Tryd.func35, Tryd.ntmps35
  go_wp2_with (first
    | (go_at_call 34; refine (word_ok wL ls x ws vt vf _ (H.out.alloc _)).mono ?_; rintro e w1 ⟨rfl, ha, hs⟩; have HA := Lib.hid ha; have HS := Lib.hid (Same.wrap hs); have hk : KB w.heap.size _ _ _ _ w1 := KB.same (heap_alloc_new w _) hs hlt; have HK := Lib.hid hk; have hz1 : w.heap.size < w1.heap.size := Nat.lt_of_lt_of_le (by simp) hs.1; have k0 := hk.c0; have k1 := hk.c1; have k2 := hk.c2; have k3 := hk.c3; have z0 := hk.fz 0; have z1 := hk.fz 1; have z2 := hk.fz 2; have z3 := hk.fz 3; clear ha hs hk)
    | (go_at_call 52; refine (mark_fail wL ls ws 116 (by omega) (by omega) HN.out vt vf _ HA.out).mono ?_; rintro e w2 ⟨rfl, hb⟩))
  exact ⟨rfl, rfl, hb⟩
set_option maxHeartbeats 1600000 in
theorem kind_fn_b2 (wL : World) (ls : List (List ByteArray)) (x : ByteArray) (ws : List ByteArray) (hx : x.toList = [102, 110]) (n : Int) (r : List ByteArray) (hn : mkN 116 ws = some (n, r)) (hp : mks 116 r = none) (hl : r.length ≤ 1000000) (vt vf : Value) (w : World) (h : At wL ls (x :: ws) vt vf w) :
    Calls Tryd.prog 35 #[.pointer (some ⟨wL.heap.size, 0, none⟩)] w (Gone wL w) := by
  have H := Lib.hid h
  have hlt := h.lt
  have e0 : (x.toList == [105, 110, 116]) = false := by rw [hx]; rfl
  have e1 : (x.toList == [112, 116, 114]) = false := by rw [hx]; rfl
  have e2 : (x.toList == [102, 110]) = true := by rw [hx]; rfl
  have HN := Lib.hid hn
  have HP := Lib.hid hp
  have HL := Lib.hid hl
  clear h hx hn hp hl
  go_enter Tryd.func35, Tryd.ntmps35
  go_wp2_with (first
    | (go_at_call 34; refine (word_ok wL ls x ws vt vf _ (H.out.alloc _)).mono ?_; rintro e w1 ⟨rfl, ha, hs⟩; have HA := Lib.hid ha; have HS := Lib.hid (Same.wrap hs); have hk : KB w.heap.size _ _ _ _ w1 := KB.same (heap_alloc_new w _) hs hlt; have HK := Lib.hid hk; have hz1 : w.heap.size < w1.heap.size := Nat.lt_of_lt_of_le (by simp) hs.1; have k0 := hk.c0; have k1 := hk.c1; have k2 := hk.c2; have k3 := hk.c3; have z0 := hk.fz 0; have z1 := hk.fz 1; have z2 := hk.fz 2; have z3 := hk.fz 3; clear ha hs hk)
    | (go_at_call 52; refine (mark_take wL ls ws 116 (by omega) (by omega) n r HN.out vt vf _ HA.out).mono ?_; rintro e w2 ⟨rfl, ha, hs⟩; have HA2 := Lib.hid ha; have HS2 := Lib.hid (HS.out.also hs); have hk2 : KB w.heap.size _ _ _ _ w2 := KB.same HK.out hs hlt; have HK2 := Lib.hid hk2; have hz2 : w.heap.size < w2.heap.size := Nat.lt_of_lt_of_le hz1 hs.1; clear k0 k1 k2 k3 z0 z1 z2 z3; have k0 := hk2.c0; have k1 := hk2.c1; have k2 := hk2.c2; have k3 := hk2.c3; have z0 := hk2.fz 0; have z1 := hk2.fz 1; have z2 := hk2.fz 2; have z3 := hk2.fz 3; clear ha hs hk2)
    | (go_at_call 53; refine (marks_bad wL ls r 116 (by omega) (by omega) HP.out HL.out vt vf _ (by repeat' (first | (with_reducible refine At.set ?_ hlt _ _) | exact HA2.out))).mono ?_; rintro e w3 ⟨rfl, hb⟩))
  exact ⟨rfl, rfl, hb⟩
set_option maxHeartbeats 1600000 in
theorem kind_struct_b (wL : World) (ls : List (List ByteArray)) (x : ByteArray) (ws : List ByteArray) (hx : x.toList = [115, 116, 114, 117, 99, 116]) (hp : mks 116 ws = none) (hl : ws.length ≤ 1000000) (vt vf : Value) (w : World) (h : At wL ls (x :: ws) vt vf w) :
    Calls Tryd.prog 35 #[.pointer (some ⟨wL.heap.size, 0, none⟩)] w (Gone wL w) := by
  have H := Lib.hid h
  have hlt := h.lt
  have e0 : (x.toList == [105, 110, 116]) = false := by rw [hx]; rfl
  have e1 : (x.toList == [112, 116, 114]) = false := by rw [hx]; rfl
  have e2 : (x.toList == [102, 110]) = false := by rw [hx]; rfl
  have e3 : (x.toList == [115, 116, 114, 117, 99, 116]) = true := by rw [hx]; rfl
  have HP := Lib.hid hp
  have HL := Lib.hid hl
  clear h hx hp hl
  go_enter Tryd.func35, Tryd.ntmps35
  go_wp2_with (first
    | (go_at_call 34; refine (word_ok wL ls x ws vt vf _ (H.out.alloc _)).mono ?_; rintro e w1 ⟨rfl, ha, hs⟩; have HA := Lib.hid ha; have HS := Lib.hid (Same.wrap hs); have hk : KB w.heap.size _ _ _ _ w1 := KB.same (heap_alloc_new w _) hs hlt; have HK := Lib.hid hk; have hz1 : w.heap.size < w1.heap.size := Nat.lt_of_lt_of_le (by simp) hs.1; have k0 := hk.c0; have k1 := hk.c1; have k2 := hk.c2; have k3 := hk.c3; have z0 := hk.fz 0; have z1 := hk.fz 1; have z2 := hk.fz 2; have z3 := hk.fz 3; clear ha hs hk)
    | (go_at_call 53; refine (marks_bad wL ls ws 116 (by omega) (by omega) HP.out HL.out vt vf _ HA.out).mono ?_; rintro e w3 ⟨rfl, hb⟩))
  exact ⟨rfl, rfl, hb⟩
set_option maxHeartbeats 1600000 in
theorem kind_array_b2 (wL : World) (ls : List (List ByteArray)) (x : ByteArray) (ws : List ByteArray) (hx : x.toList = [97, 114, 114, 97, 121]) (n : Int) (r : List ByteArray) (hn : mkN 116 ws = some (n, r)) (hp : smN r = none) (vt vf : Value) (w : World) (h : At wL ls (x :: ws) vt vf w) :
    Calls Tryd.prog 35 #[.pointer (some ⟨wL.heap.size, 0, none⟩)] w (Gone wL w) := by
  have H := Lib.hid h
  have hlt := h.lt
  have e0 : (x.toList == [105, 110, 116]) = false := by rw [hx]; rfl
  have e1 : (x.toList == [112, 116, 114]) = false := by rw [hx]; rfl
  have e2 : (x.toList == [102, 110]) = false := by rw [hx]; rfl
  have e3 : (x.toList == [115, 116, 114, 117, 99, 116]) = false := by rw [hx]; rfl
  have e4 : (x.toList == [97, 114, 114, 97, 121]) = true := by rw [hx]; rfl
  have HN := Lib.hid hn
  have HP := Lib.hid hp
  clear h hx hn hp
  go_enter Tryd.func35, Tryd.ntmps35
  go_wp2_with (first
    | (go_at_call 34; refine (word_ok wL ls x ws vt vf _ (H.out.alloc _)).mono ?_; rintro e w1 ⟨rfl, ha, hs⟩; have HA := Lib.hid ha; have HS := Lib.hid (Same.wrap hs); have hk : KB w.heap.size _ _ _ _ w1 := KB.same (heap_alloc_new w _) hs hlt; have HK := Lib.hid hk; have hz1 : w.heap.size < w1.heap.size := Nat.lt_of_lt_of_le (by simp) hs.1; have k0 := hk.c0; have k1 := hk.c1; have k2 := hk.c2; have k3 := hk.c3; have z0 := hk.fz 0; have z1 := hk.fz 1; have z2 := hk.fz 2; have z3 := hk.fz 3; clear ha hs hk)
    | (go_at_call 52; refine (mark_take wL ls ws 116 (by omega) (by omega) n r HN.out vt vf _ HA.out).mono ?_; rintro e w2 ⟨rfl, ha, hs⟩; have HA2 := Lib.hid ha; have HS2 := Lib.hid (HS.out.also hs); have hk2 : KB w.heap.size _ _ _ _ w2 := KB.same HK.out hs hlt; have HK2 := Lib.hid hk2; have hz2 : w.heap.size < w2.heap.size := Nat.lt_of_lt_of_le hz1 hs.1; clear k0 k1 k2 k3 z0 z1 z2 z3; have k0 := hk2.c0; have k1 := hk2.c1; have k2 := hk2.c2; have k3 := hk2.c3; have z0 := hk2.fz 0; have z1 := hk2.fz 1; have z2 := hk2.fz 2; have z3 := hk2.fz 3; clear ha hs hk2)
    | (go_at_call 54; refine (small_fail wL ls r HP.out vt vf _ (by repeat' (first | (with_reducible refine At.set ?_ hlt _ _) | exact HA2.out))).mono ?_; rintro e w3 ⟨rfl, hb⟩))
  exact ⟨rfl, rfl, hb⟩
set_option maxHeartbeats 1600000 in
theorem kind_other (wL : World) (ls : List (List ByteArray)) (x : ByteArray) (ws : List ByteArray) (hx : x.toList ≠ [105, 110, 116] ∧ x.toList ≠ [112, 116, 114] ∧ x.toList ≠ [102, 110] ∧ x.toList ≠ [115, 116, 114, 117, 99, 116] ∧ x.toList ≠ [97, 114, 114, 97, 121]) (vt vf : Value) (w : World) (h : At wL ls (x :: ws) vt vf w) :
    Calls Tryd.prog 35 #[.pointer (some ⟨wL.heap.size, 0, none⟩)] w (Gone wL w) := by
  have H := Lib.hid h
  have hlt := h.lt
  have e0 : (x.toList == [105, 110, 116]) = false := beq_eq_false_iff_ne.2 hx.1
  have e1 : (x.toList == [112, 116, 114]) = false := beq_eq_false_iff_ne.2 hx.2.1
  have e2 : (x.toList == [102, 110]) = false := beq_eq_false_iff_ne.2 hx.2.2.1
  have e3 : (x.toList == [115, 116, 114, 117, 99, 116]) = false := beq_eq_false_iff_ne.2 hx.2.2.2.1
  have e4 : (x.toList == [97, 114, 114, 97, 121]) = false := beq_eq_false_iff_ne.2 hx.2.2.2.2
  clear h hx
  go_enter Tryd.func35, Tryd.ntmps35
  go_wp2_with (first
    | (go_at_call 34; refine (word_ok wL ls x ws vt vf _ (H.out.alloc _)).mono ?_; rintro e w1 ⟨rfl, ha, hs⟩; have HA := Lib.hid ha; have HS := Lib.hid (Same.wrap hs); have hk : KB w.heap.size _ _ _ _ w1 := KB.same (heap_alloc_new w _) hs hlt; have HK := Lib.hid hk; have hz1 : w.heap.size < w1.heap.size := Nat.lt_of_lt_of_le (by simp) hs.1; have k0 := hk.c0; have k1 := hk.c1; have k2 := hk.c2; have k3 := hk.c3; have z0 := hk.fz 0; have z1 := hk.fz 1; have z2 := hk.fz 2; have z3 := hk.fz 3; clear ha hs hk)
    | (go_at_call 36; refine (need_no _).mono ?_; rintro e w3 ⟨rfl, hw⟩; rw [hw]))
  exact ⟨rfl, rfl, HA.out.below⟩
def kindF : List ByteArray → Option (Ty × List ByteArray)
  | [] => none
  | x :: ws =>
    if x.toList = [105, 110, 116] then some (⟨1, 0, 0, []⟩, ws)
    else if x.toList = [112, 116, 114] then (mkN 116 ws).map fun p => (⟨2, p.1, 0, []⟩, p.2)
    else if x.toList = [102, 110] then (mkN 116 ws).bind fun p => (mks 116 p.2).map fun ps => (⟨3, p.1, 0, ps⟩, [])
    else if x.toList = [115, 116, 114, 117, 99, 116] then (mks 116 ws).map fun ps => (⟨4, 0, 0, ps⟩, [])
    else if x.toList = [97, 114, 114, 97, 121] then (mkN 116 ws).bind fun p => (smN p.2).map fun q => (⟨5, p.1, q.1, []⟩, q.2)
    else none
theorem mkN_len {c : Int} {ws r : List ByteArray} {n : Int} (h : mkN c ws = some (n, r)) : r.length + 1 = ws.length := by
  cases ws with
  | nil => cases h
  | cons x r' =>
    simp only [mkN, Option.map_eq_some_iff] at h
    obtain ⟨m, _, he⟩ := h
    injection he with _ h3
    subst h3; simp
theorem kind_bad (wL : World) (ls : List (List ByteArray)) (ws : List ByteArray) (hk : kindF ws = none) (hl : ws.length ≤ 1000000) (vt vf : Value) (w : World) (h : At wL ls ws vt vf w) :
    Calls Tryd.prog 35 #[.pointer (some ⟨wL.heap.size, 0, none⟩)] w (Gone wL w) := by
  cases ws with
  | nil => exact kind_none wL ls vt vf w h
  | cons x ws =>
    have hl' : ws.length ≤ 1000000 := by simp at hl; omega
    rw [kindF] at hk
    by_cases h1 : x.toList = [105, 110, 116]
    · rw [if_pos h1] at hk; cases hk
    rw [if_neg h1] at hk
    by_cases h2 : x.toList = [112, 116, 114]
    · rw [if_pos h2] at hk
      exact kind_ptr_b1 wL ls x ws h2 (by simpa using hk) vt vf w h
    rw [if_neg h2] at hk
    by_cases h3 : x.toList = [102, 110]
    · rw [if_pos h3] at hk
      cases hm : mkN 116 ws with
      | none => exact kind_fn_b1 wL ls x ws h3 hm vt vf w h
      | some p =>
        rw [hm] at hk
        have := mkN_len hm
        exact kind_fn_b2 wL ls x ws h3 p.1 p.2 hm (by simpa using hk) (by omega) vt vf w h
    rw [if_neg h3] at hk
    by_cases h4 : x.toList = [115, 116, 114, 117, 99, 116]
    · rw [if_pos h4] at hk
      exact kind_struct_b wL ls x ws h4 (by simpa using hk) hl' vt vf w h
    rw [if_neg h4] at hk
    by_cases h5 : x.toList = [97, 114, 114, 97, 121]
    · rw [if_pos h5] at hk
      cases hm : mkN 116 ws with
      | none => exact kind_array_b1 wL ls x ws h5 hm vt vf w h
      | some p =>
        rw [hm] at hk
        exact kind_array_b2 wL ls x ws h5 p.1 p.2 hm (by simpa using hk) vt vf w h
    · exact kind_other wL ls x ws ⟨h1, h2, h3, h4, h5⟩ vt vf w h
theorem kind_ok (wL : World) (ls : List (List ByteArray)) (ws : List ByteArray) (t : Ty) (r : List ByteArray) (hk : kindF ws = some (t, r)) (hl : ws.length ≤ 1000000) (vt vf : Value) (w : World) (h : At wL ls ws vt vf w) :
    Calls Tryd.prog 35 #[.pointer (some ⟨wL.heap.size, 0, none⟩)] w (KindPost wL ls r vt vf w t) := by
  cases ws with
  | nil => cases hk
  | cons x ws =>
    have hl' : ws.length ≤ 1000000 := by simp at hl; omega
    rw [kindF] at hk
    by_cases h1 : x.toList = [105, 110, 116]
    · rw [if_pos h1] at hk
      injection hk with hk; injection hk with e1 e2; subst e1; subst e2
      exact kind_int wL ls x ws h1 vt vf w h
    rw [if_neg h1] at hk
    by_cases h2 : x.toList = [112, 116, 114]
    · rw [if_pos h2, Option.map_eq_some_iff] at hk
      obtain ⟨p, hm, he⟩ := hk
      injection he with e1 e2; subst e1; subst e2
      exact kind_ptr wL ls x ws h2 p.1 p.2 hm vt vf w h
    rw [if_neg h2] at hk
    by_cases h3 : x.toList = [102, 110]
    · rw [if_pos h3, Option.bind_eq_some_iff] at hk
      obtain ⟨p, hm, he⟩ := hk
      rw [Option.map_eq_some_iff] at he
      obtain ⟨ps, hp, he⟩ := he
      injection he with e1 e2; subst e1; subst e2
      have := mkN_len hm
      exact kind_fn wL ls x ws h3 p.1 p.2 hm ps hp (by omega) vt vf w h
    rw [if_neg h3] at hk
    by_cases h4 : x.toList = [115, 116, 114, 117, 99, 116]
    · rw [if_pos h4, Option.map_eq_some_iff] at hk
      obtain ⟨ps, hp, he⟩ := hk
      injection he with e1 e2; subst e1; subst e2
      exact kind_struct wL ls x ws h4 ps hp hl' vt vf w h
    rw [if_neg h4] at hk
    by_cases h5 : x.toList = [97, 114, 114, 97, 121]
    · rw [if_pos h5, Option.bind_eq_some_iff] at hk
      obtain ⟨p, hm, he⟩ := hk
      rw [Option.map_eq_some_iff] at he
      obtain ⟨q, hp, he⟩ := he
      injection he with e1 e2; subst e1; subst e2
      exact kind_array wL ls x ws h5 p.1 p.2 hm q.1 q.2 hp vt vf w h
    · rw [if_neg h5] at hk; cases hk
end Go.Proofs.YtlghkomipboflaaDoor.Rd
end
section
namespace Go.Proofs.YtlghkomipboflaaDoor.Rd
open Go.RowKit Go.Proofs.YtlghkomipboflaaDoor Go.Proofs.YtlghkomipboflaaDoor.X Go.Proofs.YtlghkomipboflaaDoorW.PrintWords Go.Proofs.YtlghkomipboflaaDoorW.PrintLast Go.Proofs.YtlghkomipboflaaDoorW.PrintMore
set_option linter.unusedVariables false
set_option linter.unusedSimpArgs false
theorem gone_dummy {G : Prop} {w : World} (hG : G) (h : wpAny Tryd.prog default #[] (fun _ _ _ => True) 0 #[] ⟨#[], []⟩ w) : G := hG
def EB (b : Nat) (a0 a1 a2 a3 : Value) (W : World) : Prop := W.heap[b]? = some (.cells #[a0, a1, a2, a3] 34 (0, 0))
theorem EB.c0 {g vl vw vt vf W} (h : EB g vl vw vt vf W) : W.cell? ⟨g, 0, none⟩ = some vl := by unfold EB at h; simp [World.cell?, h]
theorem EB.c1 {g vl vw vt vf W} (h : EB g vl vw vt vf W) : W.cell? ⟨g, 1, none⟩ = some vw := by unfold EB at h; simp [World.cell?, h]
theorem EB.c2 {g vl vw vt vf W} (h : EB g vl vw vt vf W) : W.cell? ⟨g, 2, none⟩ = some vt := by unfold EB at h; simp [World.cell?, h]
theorem EB.c3 {g vl vw vt vf W} (h : EB g vl vw vt vf W) : W.cell? ⟨g, 3, none⟩ = some vf := by unfold EB at h; simp [World.cell?, h]
theorem EB.fz {g vl vw vt vf W} (h : EB g vl vw vt vf W) (j : Nat) : W.frozen? ⟨g, j, none⟩ = false := by unfold EB at h; simp [World.frozen?, h]
theorem EB.set0 {g vl vw vt vf W} (h : EB g vl vw vt vf W) (v : Value) : EB g v vw vt vf (W.setCell ⟨g, 0, none⟩ v) := by unfold EB at h ⊢; rw [heap_set h]; rfl
theorem EB.set1 {g vl vw vt vf W} (h : EB g vl vw vt vf W) (v : Value) : EB g vl v vt vf (W.setCell ⟨g, 1, none⟩ v) := by unfold EB at h ⊢; rw [heap_set h]; rfl
theorem EB.set2 {g vl vw vt vf W} (h : EB g vl vw vt vf W) (v : Value) : EB g vl vw v vf (W.setCell ⟨g, 2, none⟩ v) := by unfold EB at h ⊢; rw [heap_set h]; rfl
theorem EB.set3 {g vl vw vt vf W} (h : EB g vl vw vt vf W) (v : Value) : EB g vl vw vt v (W.setCell ⟨g, 3, none⟩ v) := by unfold EB at h ⊢; rw [heap_set h]; rfl
theorem EB.same {wL : World} {g vl vw vt vf W W1} (h : EB g vl vw vt vf W) (hs : Same wL W W1) (hg : wL.heap.size < g) : EB g vl vw vt vf W1 := by
  unfold EB at h ⊢
  rw [hs.2 g (blk_lt h) (by omega) (by simp), h]
theorem EB.drewN {g vl vw vt vf W} (h : EB g vl vw vt vf W) (n : Nat) : EB g vl vw vt vf (W.drewN n) := h
abbrev En : Type := S34
def EndPost (wL : World) (ls : List (List ByteArray)) (r : List ByteArray) (vt vf : Value) (w : World) (t : En) (e : Ending) (w' : World) : Prop :=
  e = .returned (.agg #[.int .u8 t.f0, .int .i64 t.f1, .int .i64 t.f2, .int .i64 t.f3]) ∧ At wL ls r vt vf w' ∧ Same wL w w'
theorem end_end {wL : World} {ls : List (List ByteArray)} {r : List ByteArray} {vt vf : Value} {w W : World} {t : En} {tmps : Array Value} {b : Nat} (h2 : tmps.getD 2 undef = .pointer (some ⟨b, 0, none⟩))
    (hk : EB b (.int .u8 t.f0) (.int .i64 t.f1) (.int .i64 t.f2) (.int .i64 t.f3) W) (ha : At wL ls r vt vf W) (hs : Same wL w W) :
    bodyPost Tryd.prog Tryd.f76 (EndPost wL ls r vt vf w t) Exit.ret { tmps := tmps, defers := [] } W :=
  bodyPost_ret (results_cell_row rfl _ _ b 34 _ (0, 0) _ h2 hk Tryd.underlying34 rfl (by kernel_rfl)) rfl ⟨rfl, ha, hs⟩
theorem end_none (wL : World) (ls : List (List ByteArray)) (vt vf : Value) (w : World) (h : At wL ls [] vt vf w) :
    Calls Tryd.prog 76 #[.pointer (some ⟨wL.heap.size, 0, none⟩)] w (Gone wL w) := by
  have H := Lib.hid h
  clear h
  go_enter Tryd.func76, Tryd.ntmps76
  go_wp2_with (go_at_call 34; refine (word_bad wL ls vt vf _ (H.out.alloc _)).mono ?_; rintro e w' ⟨rfl, hb⟩)
  exact ⟨rfl, rfl, hb⟩
set_option maxHeartbeats 3200000 in
theorem end_jump (wL : World) (ls : List (List ByteArray)) (x : ByteArray) (ws : List ByteArray) (hx : x.toList = [106, 117, 109, 112]) (n : Int) (r : List ByteArray) (hn : mkN 98 ws = some (n, r)) (vt vf : Value) (w : World) (h : At wL ls (x :: ws) vt vf w) :
    Calls Tryd.prog 76 #[.pointer (some ⟨wL.heap.size, 0, none⟩)] w (EndPost wL ls r vt vf w ⟨1, 0, n, 0⟩) := by
  have H := Lib.hid h
  have hlt := h.lt
  have e0 : (x.toList == [106, 117, 109, 112]) = true := by rw [hx]; rfl
  have HN := Lib.hid hn
  clear h hx hn
  go_enter Tryd.func76, Tryd.ntmps76
  go_wp2_with (first
    | (go_at_call 34; refine (word_ok wL ls x ws vt vf _ (H.out.alloc _)).mono ?_; rintro e w1 ⟨rfl, ha, hs⟩; have HA := Lib.hid ha; have HS := Lib.hid (Same.wrap hs); have hk : EB w.heap.size _ _ _ _ w1 := EB.same (heap_alloc_new w _) hs hlt; have HK := Lib.hid hk; have hz1 : w.heap.size < w1.heap.size := Nat.lt_of_lt_of_le (by simp) hs.1; have k0 := hk.c0; have k1 := hk.c1; have k2 := hk.c2; have k3 := hk.c3; have z0 := hk.fz 0; have z1 := hk.fz 1; have z2 := hk.fz 2; have z3 := hk.fz 3; clear ha hs hk)
    | (go_at_call 52; refine (mark_take wL ls ws 98 (by omega) (by omega) n r HN.out vt vf _ HA.out).mono ?_; rintro e w2 ⟨rfl, ha, hs⟩; have HA2 := Lib.hid ha; have HS2 := Lib.hid (HS.out.also hs); have hk2 : EB w.heap.size _ _ _ _ w2 := EB.same HK.out hs hlt; have HK2 := Lib.hid hk2; have hz2 : w.heap.size < w2.heap.size := Nat.lt_of_lt_of_le hz1 hs.1; clear k0 k1 k2 k3 z0 z1 z2 z3; have k0 := hk2.c0; have k1 := hk2.c1; have k2 := hk2.c2; have k3 := hk2.c3; have z0 := hk2.fz 0; have z1 := hk2.fz 1; have z2 := hk2.fz 2; have z3 := hk2.fz 3; clear ha hs hk2))
  exact end_end rfl ((((((((HK2.out.set0 _).set1 _).set2 _).set3 _).set0 _).set1 _).set2 _).set3 _) (by repeat' (first | (with_reducible refine At.set ?_ hlt _ _) | exact HA2.out)) (by repeat' (first | (with_reducible refine Same.set ?_ (Nat.le_refl _) _ _) | exact HS2.out))
set_option maxHeartbeats 3200000 in
theorem end_jump_b (wL : World) (ls : List (List ByteArray)) (x : ByteArray) (ws : List ByteArray) (hx : x.toList = [106, 117, 109, 112]) (hn : mkN 98 ws = none) (vt vf : Value) (w : World) (h : At wL ls (x :: ws) vt vf w) :
    Calls Tryd.prog 76 #[.pointer (some ⟨wL.heap.size, 0, none⟩)] w (Gone wL w) := by
  have H := Lib.hid h
  have hlt := h.lt
  have e0 : (x.toList == [106, 117, 109, 112]) = true := by rw [hx]; rfl
  have HN := Lib.hid hn
  clear h hx hn
  go_enter Tryd.func76, Tryd.ntmps76
  go_wp2_with (first
    | (go_at_call 34; refine (word_ok wL ls x ws vt vf _ (H.out.alloc _)).mono ?_; rintro e w1 ⟨rfl, ha, hs⟩; have HA := Lib.hid ha; have HS := Lib.hid (Same.wrap hs); have hk : EB w.heap.size _ _ _ _ w1 := EB.same (heap_alloc_new w _) hs hlt; have HK := Lib.hid hk; have hz1 : w.heap.size < w1.heap.size := Nat.lt_of_lt_of_le (by simp) hs.1; have k0 := hk.c0; have k1 := hk.c1; have k2 := hk.c2; have k3 := hk.c3; have z0 := hk.fz 0; have z1 := hk.fz 1; have z2 := hk.fz 2; have z3 := hk.fz 3; clear ha hs hk)
    | (go_at_call 52; refine (mark_fail wL ls ws 98 (by omega) (by omega) HN.out vt vf _ HA.out).mono ?_; rintro e w2 ⟨rfl, hb⟩))
  exact ⟨rfl, rfl, hb⟩
set_option maxHeartbeats 3200000 in
theorem end_ret (wL : World) (ls : List (List ByteArray)) (x : ByteArray) (ws : List ByteArray) (hx : x.toList ≠ [106, 117, 109, 112] ∧ x.toList ≠ [98, 114, 97, 110, 99, 104]) (n : Int) (r : List ByteArray) (hn : mkN 114 ws = some (n, r)) (vt vf : Value) (w : World) (h : At wL ls (x :: ws) vt vf w) :
    Calls Tryd.prog 76 #[.pointer (some ⟨wL.heap.size, 0, none⟩)] w (EndPost wL ls r vt vf w ⟨3, n, 0, 0⟩) := by
  have H := Lib.hid h
  have hlt := h.lt
  have e0 : (x.toList == [106, 117, 109, 112]) = false := beq_eq_false_iff_ne.2 hx.1
  have e1 : (x.toList == [98, 114, 97, 110, 99, 104]) = false := beq_eq_false_iff_ne.2 hx.2
  have HN := Lib.hid hn
  clear h hx hn
  go_enter Tryd.func76, Tryd.ntmps76
  go_wp2_with (first
    | (go_at_call 34; refine (word_ok wL ls x ws vt vf _ (H.out.alloc _)).mono ?_; rintro e w1 ⟨rfl, ha, hs⟩; have HA := Lib.hid ha; have HS := Lib.hid (Same.wrap hs); have hk : EB w.heap.size _ _ _ _ w1 := EB.same (heap_alloc_new w _) hs hlt; have HK := Lib.hid hk; have hz1 : w.heap.size < w1.heap.size := Nat.lt_of_lt_of_le (by simp) hs.1; have k0 := hk.c0; have k1 := hk.c1; have k2 := hk.c2; have k3 := hk.c3; have z0 := hk.fz 0; have z1 := hk.fz 1; have z2 := hk.fz 2; have z3 := hk.fz 3; clear ha hs hk)
    | (go_at_call 52; refine (mark_take wL ls ws 114 (by omega) (by omega) n r HN.out vt vf _ HA.out).mono ?_; rintro e w2 ⟨rfl, ha, hs⟩; have HA2 := Lib.hid ha; have HS2 := Lib.hid (HS.out.also hs); have hk2 : EB w.heap.size _ _ _ _ w2 := EB.same HK.out hs hlt; have HK2 := Lib.hid hk2; have hz2 : w.heap.size < w2.heap.size := Nat.lt_of_lt_of_le hz1 hs.1; clear k0 k1 k2 k3 z0 z1 z2 z3; have k0 := hk2.c0; have k1 := hk2.c1; have k2 := hk2.c2; have k3 := hk2.c3; have z0 := hk2.fz 0; have z1 := hk2.fz 1; have z2 := hk2.fz 2; have z3 := hk2.fz 3; clear ha hs hk2))
  exact end_end rfl ((((((((HK2.out.set0 _).set1 _).set2 _).set3 _).set0 _).set1 _).set2 _).set3 _) (by repeat' (first | (with_reducible refine At.set ?_ hlt _ _) | exact HA2.out)) (by repeat' (first | (with_reducible refine Same.set ?_ (Nat.le_refl _) _ _) | exact HS2.out))
set_option maxHeartbeats 3200000 in
theorem end_ret_b (wL : World) (ls : List (List ByteArray)) (x : ByteArray) (ws : List ByteArray) (hx : x.toList ≠ [106, 117, 109, 112] ∧ x.toList ≠ [98, 114, 97, 110, 99, 104]) (hn : mkN 114 ws = none) (vt vf : Value) (w : World) (h : At wL ls (x :: ws) vt vf w) :
    Calls Tryd.prog 76 #[.pointer (some ⟨wL.heap.size, 0, none⟩)] w (Gone wL w) := by
  have H := Lib.hid h
  have hlt := h.lt
  have e0 : (x.toList == [106, 117, 109, 112]) = false := beq_eq_false_iff_ne.2 hx.1
  have e1 : (x.toList == [98, 114, 97, 110, 99, 104]) = false := beq_eq_false_iff_ne.2 hx.2
  have HN := Lib.hid hn
  clear h hx hn
  go_enter Tryd.func76, Tryd.ntmps76
  go_wp2_with (first
    | (go_at_call 34; refine (word_ok wL ls x ws vt vf _ (H.out.alloc _)).mono ?_; rintro e w1 ⟨rfl, ha, hs⟩; have HA := Lib.hid ha; have HS := Lib.hid (Same.wrap hs); have hk : EB w.heap.size _ _ _ _ w1 := EB.same (heap_alloc_new w _) hs hlt; have HK := Lib.hid hk; have hz1 : w.heap.size < w1.heap.size := Nat.lt_of_lt_of_le (by simp) hs.1; have k0 := hk.c0; have k1 := hk.c1; have k2 := hk.c2; have k3 := hk.c3; have z0 := hk.fz 0; have z1 := hk.fz 1; have z2 := hk.fz 2; have z3 := hk.fz 3; clear ha hs hk)
    | (go_at_call 52; refine (mark_fail wL ls ws 114 (by omega) (by omega) HN.out vt vf _ HA.out).mono ?_; rintro e w2 ⟨rfl, hb⟩))
  exact ⟨rfl, rfl, hb⟩
set_option maxHeartbeats 3200000 in
theorem end_branch (wL : World) (ls : List (List ByteArray)) (x : ByteArray) (ws : List ByteArray) (hx : x.toList = [98, 114, 97, 110, 99, 104]) (n : Int) (r : List ByteArray) (hn : mkN 114 ws = some (n, r)) (m : Int) (r2 : List ByteArray) (hm : mkN 98 r = some (m, r2)) (q : Int) (r3 : List ByteArray) (hq : mkN 98 r2 = some (q, r3)) (vt vf : Value) (w : World) (h : At wL ls (x :: ws) vt vf w) :
    Calls Tryd.prog 76 #[.pointer (some ⟨wL.heap.size, 0, none⟩)] w (EndPost wL ls r3 vt vf w ⟨2, n, m, q⟩) := by
  have H := Lib.hid h
  have hlt := h.lt
  have e0 : (x.toList == [106, 117, 109, 112]) = false := by rw [hx]; rfl
  have e1 : (x.toList == [98, 114, 97, 110, 99, 104]) = true := by rw [hx]; rfl
  have HN := Lib.hid hn
  have HM := Lib.hid hm
  have HQ := Lib.hid hq
  clear h hx hn hm hq
  go_enter Tryd.func76, Tryd.ntmps76
  go_wp2_with (first
    | (go_at_call 34; refine (word_ok wL ls x ws vt vf _ (H.out.alloc _)).mono ?_; rintro e w1 ⟨rfl, ha, hs⟩; have HA := Lib.hid ha; have HS := Lib.hid (Same.wrap hs); have hk : EB w.heap.size _ _ _ _ w1 := EB.same (heap_alloc_new w _) hs hlt; have HK := Lib.hid hk; have hz1 : w.heap.size < w1.heap.size := Nat.lt_of_lt_of_le (by simp) hs.1; have k0 := hk.c0; have k1 := hk.c1; have k2 := hk.c2; have k3 := hk.c3; have z0 := hk.fz 0; have z1 := hk.fz 1; have z2 := hk.fz 2; have z3 := hk.fz 3; clear ha hs hk)
    | (go_at_call 52; refine (mark_take wL ls ws 114 (by omega) (by omega) n r HN.out vt vf _ HA.out).mono ?_; rintro e w2 ⟨rfl, ha, hs⟩; have HA2 := Lib.hid ha; have HS2 := Lib.hid (HS.out.also hs); have hk2 : EB w.heap.size _ _ _ _ w2 := EB.same HK.out hs hlt; have HK2 := Lib.hid hk2; have hz2 : w.heap.size < w2.heap.size := Nat.lt_of_lt_of_le hz1 hs.1; clear k0 k1 k2 k3 z0 z1 z2 z3; have k0 := hk2.c0; have k1 := hk2.c1; have k2 := hk2.c2; have k3 := hk2.c3; have z0 := hk2.fz 0; have z1 := hk2.fz 1; have z2 := hk2.fz 2; have z3 := hk2.fz 3; clear ha hs hk2))
  have ha3 : At wL ls r vt vf ((((w2.setCell ⟨w.heap.size, 0, none⟩ (.int .u8 2)).setCell ⟨w.heap.size, 1, none⟩ (.int .i64 n)).setCell ⟨w.heap.size, 2, none⟩ (.int .i64 0)).setCell ⟨w.heap.size, 3, none⟩ (.int .i64 0)) := (((HA2.out.set hlt _ _).set hlt _ _).set hlt _ _).set hlt _ _
  have hs3 : Same wL w ((((w2.setCell ⟨w.heap.size, 0, none⟩ (.int .u8 2)).setCell ⟨w.heap.size, 1, none⟩ (.int .i64 n)).setCell ⟨w.heap.size, 2, none⟩ (.int .i64 0)).setCell ⟨w.heap.size, 3, none⟩ (.int .i64 0)) := (((HS2.out.set (Nat.le_refl _) _ _).set (Nat.le_refl _) _ _).set (Nat.le_refl _) _ _).set (Nat.le_refl _) _ _
  have hk3 : EB w.heap.size _ _ _ _ ((((w2.setCell ⟨w.heap.size, 0, none⟩ (.int .u8 2)).setCell ⟨w.heap.size, 1, none⟩ (.int .i64 n)).setCell ⟨w.heap.size, 2, none⟩ (.int .i64 0)).setCell ⟨w.heap.size, 3, none⟩ (.int .i64 0)) := (((HK2.out.set0 _).set1 _).set2 _).set3 _
  generalize ((((w2.setCell ⟨w.heap.size, 0, none⟩ (.int .u8 2)).setCell ⟨w.heap.size, 1, none⟩ (.int .i64 n)).setCell ⟨w.heap.size, 2, none⟩ (.int .i64 0)).setCell ⟨w.heap.size, 3, none⟩ (.int .i64 0)) = w3 at ha3 hs3 hk3 ⊢
  have HA3 := Lib.hid ha3
  have HS3 := Lib.hid hs3
  have HK3 := Lib.hid hk3
  clear ha3 hs3 hk3 k0 k1 k2 k3 z0 z1 z2 z3
  go_region_with (first
    | (go_at_call 52; with_reducible refine (mark_take wL ls r2 98 (by omega) (by omega) q r3 HQ.out vt vf _ HA4.out).mono ?_; rintro e w5 ⟨rfl, ha, hs⟩; have HA5 := Lib.hid ha; have HS5 := Lib.hid (HS4.out.also hs); have hk5 := (EB.same HK4.out hs hlt); have HK5 := Lib.hid hk5; have k0 := hk5.c0; have k1 := hk5.c1; have k2 := hk5.c2; have k3 := hk5.c3; have z0 := hk5.fz 0; have z1 := hk5.fz 1; have z2 := hk5.fz 2; have z3 := hk5.fz 3; clear ha hs hk5)
    | (go_at_call 52; refine (mark_take wL ls r 98 (by omega) (by omega) m r2 HM.out vt vf _ (HA3.out.drewN _)).mono ?_; rintro e w4 ⟨rfl, ha, hs⟩; have HA4 := Lib.hid ha; have HS4 := Lib.hid (HS3.out.also hs); have HK4 := Lib.hid (EB.same HK3.out hs hlt); clear ha hs))
  all_goals
    go_wp2
    exact end_end rfl ((((((HK5.out.set2 _).set3 _).set0 _).set1 _).set2 _).set3 _) (by repeat' (first | (with_reducible refine At.set ?_ hlt _ _) | exact HA5.out)) (by repeat' (first | (with_reducible refine Same.set ?_ (Nat.le_refl _) _ _) | exact HS5.out))
set_option maxHeartbeats 3200000 in
theorem end_branch_b1 (wL : World) (ls : List (List ByteArray)) (x : ByteArray) (ws : List ByteArray) (hx : x.toList = [98, 114, 97, 110, 99, 104]) (hn : mkN 114 ws = none) (vt vf : Value) (w : World) (h : At wL ls (x :: ws) vt vf w) :
    Calls Tryd.prog 76 #[.pointer (some ⟨wL.heap.size, 0, none⟩)] w (Gone wL w) := by
  have H := Lib.hid h
  have hlt := h.lt
  have e0 : (x.toList == [106, 117, 109, 112]) = false := by rw [hx]; rfl
  have e1 : (x.toList == [98, 114, 97, 110, 99, 104]) = true := by rw [hx]; rfl
  have HN := Lib.hid hn
  clear h hx hn
  go_enter Tryd.func76, Tryd.ntmps76
  go_wp2_with (first
    | (go_at_call 34; refine (word_ok wL ls x ws vt vf _ (H.out.alloc _)).mono ?_; rintro e w1 ⟨rfl, ha, hs⟩; have HA := Lib.hid ha; have HS := Lib.hid (Same.wrap hs); have hk : EB w.heap.size _ _ _ _ w1 := EB.same (heap_alloc_new w _) hs hlt; have HK := Lib.hid hk; have hz1 : w.heap.size < w1.heap.size := Nat.lt_of_lt_of_le (by simp) hs.1; have k0 := hk.c0; have k1 := hk.c1; have k2 := hk.c2; have k3 := hk.c3; have z0 := hk.fz 0; have z1 := hk.fz 1; have z2 := hk.fz 2; have z3 := hk.fz 3; clear ha hs hk)
    | (go_at_call 52; refine (mark_fail wL ls ws 114 (by omega) (by omega) HN.out vt vf _ HA.out).mono ?_; rintro e w2 ⟨rfl, hb⟩))
  exact ⟨rfl, rfl, hb⟩
set_option maxHeartbeats 3200000 in
theorem end_branch_b2 (wL : World) (ls : List (List ByteArray)) (x : ByteArray) (ws : List ByteArray) (hx : x.toList = [98, 114, 97, 110, 99, 104]) (n : Int) (r : List ByteArray) (hn : mkN 114 ws = some (n, r)) (hm : mkN 98 r = none) (vt vf : Value) (w : World) (h : At wL ls (x :: ws) vt vf w) :
    Calls Tryd.prog 76 #[.pointer (some ⟨wL.heap.size, 0, none⟩)] w (Gone wL w) := by
  have H := Lib.hid h
  have hlt := h.lt
  have e0 : (x.toList == [106, 117, 109, 112]) = false := by rw [hx]; rfl
  have e1 : (x.toList == [98, 114, 97, 110, 99, 104]) = true := by rw [hx]; rfl
  have HN := Lib.hid hn
  have HM := Lib.hid hm
  clear h hx hn hm
  go_enter Tryd.func76, Tryd.ntmps76
  go_wp2_with (first
    | (go_at_call 34; refine (word_ok wL ls x ws vt vf _ (H.out.alloc _)).mono ?_; rintro e w1 ⟨rfl, ha, hs⟩; have HA := Lib.hid ha; have HS := Lib.hid (Same.wrap hs); have hk : EB w.heap.size _ _ _ _ w1 := EB.same (heap_alloc_new w _) hs hlt; have HK := Lib.hid hk; have hz1 : w.heap.size < w1.heap.size := Nat.lt_of_lt_of_le (by simp) hs.1; have k0 := hk.c0; have k1 := hk.c1; have k2 := hk.c2; have k3 := hk.c3; have z0 := hk.fz 0; have z1 := hk.fz 1; have z2 := hk.fz 2; have z3 := hk.fz 3; clear ha hs hk)
    | (go_at_call 52; refine (mark_take wL ls ws 114 (by omega) (by omega) n r HN.out vt vf _ HA.out).mono ?_; rintro e w2 ⟨rfl, ha, hs⟩; have HA2 := Lib.hid ha; have HS2 := Lib.hid (HS.out.also hs); have hk2 : EB w.heap.size _ _ _ _ w2 := EB.same HK.out hs hlt; have HK2 := Lib.hid hk2; have hz2 : w.heap.size < w2.heap.size := Nat.lt_of_lt_of_le hz1 hs.1; clear k0 k1 k2 k3 z0 z1 z2 z3; have k0 := hk2.c0; have k1 := hk2.c1; have k2 := hk2.c2; have k3 := hk2.c3; have z0 := hk2.fz 0; have z1 := hk2.fz 1; have z2 := hk2.fz 2; have z3 := hk2.fz 3; clear ha hs hk2))
  have ha3 : At wL ls r vt vf ((((w2.setCell ⟨w.heap.size, 0, none⟩ (.int .u8 2)).setCell ⟨w.heap.size, 1, none⟩ (.int .i64 n)).setCell ⟨w.heap.size, 2, none⟩ (.int .i64 0)).setCell ⟨w.heap.size, 3, none⟩ (.int .i64 0)) := (((HA2.out.set hlt _ _).set hlt _ _).set hlt _ _).set hlt _ _
  have hs3 : Same wL w ((((w2.setCell ⟨w.heap.size, 0, none⟩ (.int .u8 2)).setCell ⟨w.heap.size, 1, none⟩ (.int .i64 n)).setCell ⟨w.heap.size, 2, none⟩ (.int .i64 0)).setCell ⟨w.heap.size, 3, none⟩ (.int .i64 0)) := (((HS2.out.set (Nat.le_refl _) _ _).set (Nat.le_refl _) _ _).set (Nat.le_refl _) _ _).set (Nat.le_refl _) _ _
  have hk3 : EB w.heap.size _ _ _ _ ((((w2.setCell ⟨w.heap.size, 0, none⟩ (.int .u8 2)).setCell ⟨w.heap.size, 1, none⟩ (.int .i64 n)).setCell ⟨w.heap.size, 2, none⟩ (.int .i64 0)).setCell ⟨w.heap.size, 3, none⟩ (.int .i64 0)) := (((HK2.out.set0 _).set1 _).set2 _).set3 _
  generalize ((((w2.setCell ⟨w.heap.size, 0, none⟩ (.int .u8 2)).setCell ⟨w.heap.size, 1, none⟩ (.int .i64 n)).setCell ⟨w.heap.size, 2, none⟩ (.int .i64 0)).setCell ⟨w.heap.size, 3, none⟩ (.int .i64 0)) = w3 at ha3 hs3 hk3 ⊢
  have HA3 := Lib.hid ha3
  have HS3 := Lib.hid hs3
  have HK3 := Lib.hid hk3
  clear ha3 hs3 hk3 k0 k1 k2 k3 z0 z1 z2 z3
  go_region_with (go_at_call 52; refine (mark_fail wL ls r 98 (by omega) (by omega) HM.out vt vf _ (HA3.out.drewN _)).mono ?_; rintro e w4 ⟨rfl, hb⟩; refine gone_dummy (w := w) ⟨rfl, rfl, hb⟩ ?_)
  all_goals trivial
set_option maxHeartbeats 3200000 in
theorem end_branch_b3 (wL : World) (ls : List (List ByteArray)) (x : ByteArray) (ws : List ByteArray) (hx : x.toList = [98, 114, 97, 110, 99, 104]) (n : Int) (r : List ByteArray) (hn : mkN 114 ws = some (n, r)) (m : Int) (r2 : List ByteArray) (hm : mkN 98 r = some (m, r2)) (hq : mkN 98 r2 = none) (vt vf : Value) (w : World) (h : At wL ls (x :: ws) vt vf w) :
    Calls Tryd.prog 76 #[.pointer (some ⟨wL.heap.size, 0, none⟩)] w (Gone wL w) := by
  have H := Lib.hid h
  have hlt := h.lt
  have e0 : (x.toList == [106, 117, 109, 112]) = false := by rw [hx]; rfl
  have e1 : (x.toList == [98, 114, 97, 110, 99, 104]) = true := by rw [hx]; rfl
  have HN := Lib.hid hn
  have HM := Lib.hid hm
  have HQ := Lib.hid hq
  clear h hx hn hm hq
  go_enter Tryd.func76, Tryd.ntmps76
  go_wp2_with (first
    | (go_at_call 34; refine (word_ok wL ls x ws vt vf _ (H.out.alloc _)).mono ?_; rintro e w1 ⟨rfl, ha, hs⟩; have HA := Lib.hid ha; have HS := Lib.hid (Same.wrap hs); have hk : EB w.heap.size _ _ _ _ w1 := EB.same (heap_alloc_new w _) hs hlt; have HK := Lib.hid hk; have hz1 : w.heap.size < w1.heap.size := Nat.lt_of_lt_of_le (by simp) hs.1; have k0 := hk.c0; have k1 := hk.c1; have k2 := hk.c2; have k3 := hk.c3; have z0 := hk.fz 0; have z1 := hk.fz 1; have z2 := hk.fz 2; have z3 := hk.fz 3; clear ha hs hk)
    | (go_at_call 52; refine (mark_take wL ls ws 114 (by omega) (by omega) n r HN.out vt vf _ HA.out).mono ?_; rintro e w2 ⟨rfl, ha, hs⟩; have HA2 := Lib.hid ha; have HS2 := Lib.hid (HS.out.also hs); have hk2 : EB w.heap.size _ _ _ _ w2 := EB.same HK.out hs hlt; have HK2 := Lib.hid hk2; have hz2 : w.heap.size < w2.heap.size := Nat.lt_of_lt_of_le hz1 hs.1; clear k0 k1 k2 k3 z0 z1 z2 z3; have k0 := hk2.c0; have k1 := hk2.c1; have k2 := hk2.c2; have k3 := hk2.c3; have z0 := hk2.fz 0; have z1 := hk2.fz 1; have z2 := hk2.fz 2; have z3 := hk2.fz 3; clear ha hs hk2))
  have ha3 : At wL ls r vt vf ((((w2.setCell ⟨w.heap.size, 0, none⟩ (.int .u8 2)).setCell ⟨w.heap.size, 1, none⟩ (.int .i64 n)).setCell ⟨w.heap.size, 2, none⟩ (.int .i64 0)).setCell ⟨w.heap.size, 3, none⟩ (.int .i64 0)) := (((HA2.out.set hlt _ _).set hlt _ _).set hlt _ _).set hlt _ _
  have hs3 : Same wL w ((((w2.setCell ⟨w.heap.size, 0, none⟩ (.int .u8 2)).setCell ⟨w.heap.size, 1, none⟩ (.int .i64 n)).setCell ⟨w.heap.size, 2, none⟩ (.int .i64 0)).setCell ⟨w.heap.size, 3, none⟩ (.int .i64 0)) := (((HS2.out.set (Nat.le_refl _) _ _).set (Nat.le_refl _) _ _).set (Nat.le_refl _) _ _).set (Nat.le_refl _) _ _
  have hk3 : EB w.heap.size _ _ _ _ ((((w2.setCell ⟨w.heap.size, 0, none⟩ (.int .u8 2)).setCell ⟨w.heap.size, 1, none⟩ (.int .i64 n)).setCell ⟨w.heap.size, 2, none⟩ (.int .i64 0)).setCell ⟨w.heap.size, 3, none⟩ (.int .i64 0)) := (((HK2.out.set0 _).set1 _).set2 _).set3 _
  generalize ((((w2.setCell ⟨w.heap.size, 0, none⟩ (.int .u8 2)).setCell ⟨w.heap.size, 1, none⟩ (.int .i64 n)).setCell ⟨w.heap.size, 2, none⟩ (.int .i64 0)).setCell ⟨w.heap.size, 3, none⟩ (.int .i64 0)) = w3 at ha3 hs3 hk3 ⊢
  have HA3 := Lib.hid ha3
  have HS3 := Lib.hid hs3
  have HK3 := Lib.hid hk3
  clear ha3 hs3 hk3 k0 k1 k2 k3 z0 z1 z2 z3
  go_region_with (first
    | (go_at_call 52; (with_reducible refine (mark_fail wL ls r2 98 (by omega) (by omega) HQ.out vt vf _ HA4.out).mono ?_); rintro e w5 ⟨rfl, hb⟩; refine gone_dummy (w := w) ⟨rfl, rfl, hb⟩ ?_)
    | (go_at_call 52; refine (mark_take wL ls r 98 (by omega) (by omega) m r2 HM.out vt vf _ (HA3.out.drewN _)).mono ?_; rintro e w4 ⟨rfl, ha, hs⟩; have HA4 := Lib.hid ha; have HS4 := Lib.hid (HS3.out.also hs); have HK4 := Lib.hid (EB.same HK3.out hs hlt); clear ha hs))
  all_goals trivial
def endF : List ByteArray → Option (En × List ByteArray)
  | [] => none
  | x :: ws =>
    if x.toList = [106, 117, 109, 112] then (mkN 98 ws).map fun p => (⟨1, 0, p.1, 0⟩, p.2)
    else if x.toList = [98, 114, 97, 110, 99, 104] then (mkN 114 ws).bind fun p => (mkN 98 p.2).bind fun q => (mkN 98 q.2).map fun s => (⟨2, p.1, q.1, s.1⟩, s.2)
    else (mkN 114 ws).map fun p => (⟨3, p.1, 0, 0⟩, p.2)
theorem end_bad (wL : World) (ls : List (List ByteArray)) (ws : List ByteArray) (hk : endF ws = none) (vt vf : Value) (w : World) (h : At wL ls ws vt vf w) :
    Calls Tryd.prog 76 #[.pointer (some ⟨wL.heap.size, 0, none⟩)] w (Gone wL w) := by
  cases ws with
  | nil => exact end_none wL ls vt vf w h
  | cons x ws =>
    rw [endF] at hk
    by_cases h1 : x.toList = [106, 117, 109, 112]
    · rw [if_pos h1] at hk
      exact end_jump_b wL ls x ws h1 (by simpa using hk) vt vf w h
    rw [if_neg h1] at hk
    by_cases h2 : x.toList = [98, 114, 97, 110, 99, 104]
    · rw [if_pos h2] at hk
      cases hm : mkN 114 ws with
      | none => exact end_branch_b1 wL ls x ws h2 hm vt vf w h
      | some p =>
        rw [hm] at hk
        simp only [Option.bind_some] at hk
        cases hq : mkN 98 p.2 with
        | none => exact end_branch_b2 wL ls x ws h2 p.1 p.2 hm hq vt vf w h
        | some q =>
          rw [hq] at hk
          exact end_branch_b3 wL ls x ws h2 p.1 p.2 hm q.1 q.2 hq (by simpa using hk) vt vf w h
    · rw [if_neg h2] at hk
      exact end_ret_b wL ls x ws ⟨h1, h2⟩ (by simpa using hk) vt vf w h
theorem end_ok (wL : World) (ls : List (List ByteArray)) (ws : List ByteArray) (t : En) (r : List ByteArray) (hk : endF ws = some (t, r)) (vt vf : Value) (w : World) (h : At wL ls ws vt vf w) :
    Calls Tryd.prog 76 #[.pointer (some ⟨wL.heap.size, 0, none⟩)] w (EndPost wL ls r vt vf w t) := by
  cases ws with
  | nil => cases hk
  | cons x ws =>
    rw [endF] at hk
    by_cases h1 : x.toList = [106, 117, 109, 112]
    · rw [if_pos h1, Option.map_eq_some_iff] at hk
      obtain ⟨p, hm, he⟩ := hk
      injection he with e1 e2; subst e1; subst e2
      exact end_jump wL ls x ws h1 p.1 p.2 hm vt vf w h
    rw [if_neg h1] at hk
    by_cases h2 : x.toList = [98, 114, 97, 110, 99, 104]
    · rw [if_pos h2, Option.bind_eq_some_iff] at hk
      obtain ⟨p, hm, he⟩ := hk
      rw [Option.bind_eq_some_iff] at he
      obtain ⟨q, hq, he⟩ := he
      rw [Option.map_eq_some_iff] at he
      obtain ⟨s, hs, he⟩ := he
      injection he with e1 e2; subst e1; subst e2
      exact end_branch wL ls x ws h2 p.1 p.2 hm q.1 q.2 hq s.1 s.2 hs vt vf w h
    · rw [if_neg h2, Option.map_eq_some_iff] at hk
      obtain ⟨p, hm, he⟩ := hk
      injection he with e1 e2; subst e1; subst e2
      exact end_ret wL ls x ws ⟨h1, h2⟩ p.1 p.2 hm vt vf w h
end Go.Proofs.YtlghkomipboflaaDoor.Rd
end
section
namespace Go.Proofs.YtlghkomipboflaaDoor.Rd
open Go.RowKit Go.Proofs.YtlghkomipboflaaDoor Go.Proofs.YtlghkomipboflaaDoor.X Go.Proofs.YtlghkomipboflaaDoorW.PrintWords Go.Proofs.YtlghkomipboflaaDoorW.PrintLast Go.Proofs.YtlghkomipboflaaDoorW.PrintMore
set_option linter.unusedVariables false
set_option linter.unusedSimpArgs false
theorem number_int_none (wL : World) (ls : List (List ByteArray))  (vt vf : Value) (w : World) (h : At wL ls [] vt vf w) :
    Calls Tryd.prog 90 #[.pointer (some ⟨wL.heap.size, 0, none⟩), .int .u8 1] w (Gone wL w) := by
  have H := Lib.hid h
  clear h
  go_enter Tryd.func90, Tryd.ntmps90
  go_wp2_with (first
    | (go_at_call 34; refine (word_bad wL ls vt vf _ H.out).mono ?_; rintro e w1 ⟨rfl, hb⟩))
  exact ⟨rfl, rfl, hb⟩
theorem number_int_bad (wL : World) (ls : List (List ByteArray)) (x : ByteArray) (ws : List ByteArray) (r1 r2 : Int) (hr : num_Read.f x = some (r1, r2)) (h0 : r2 ≠ 0) (vt vf : Value) (w : World) (h : At wL ls (x :: ws) vt vf w) :
    Calls Tryd.prog 90 #[.pointer (some ⟨wL.heap.size, 0, none⟩), .int .u8 1] w (Gone wL w) := by
  have H := Lib.hid h
  have e0 : (r2 == 0) = false := beq_eq_false_iff_ne.2 h0
  have HR := Lib.hid hr
  have H0 := Lib.hid h0
  clear h hr h0
  go_enter Tryd.func90, Tryd.ntmps90
  go_wp2_with (first
    | (go_at_call 34; refine (word_ok wL ls x ws vt vf _ H.out).mono ?_; rintro e w1 ⟨rfl, ha, hs⟩; have HA := Lib.hid ha; have HS := Lib.hid hs; clear ha hs)
    | (go_at_call 15; refine (num_Read.calls x r1 r2 _ HR.out).mono ?_; rintro e w2 ⟨rfl, hb⟩; have HB := Lib.hid hb; clear hb)
    | (go_at_call 36; refine (need_no _).mono ?_; rintro e w3 ⟨rfl, hw⟩; rw [hw]))
  exact ⟨rfl, rfl, (HA.out.later HB.out).below⟩
theorem number_int_ok (wL : World) (ls : List (List ByteArray)) (x : ByteArray) (ws : List ByteArray) (r1 : Int) (hr : num_Read.f x = some (r1, 0)) (vt vf : Value) (w : World) (h : At wL ls (x :: ws) vt vf w) :
    Calls Tryd.prog 90 #[.pointer (some ⟨wL.heap.size, 0, none⟩), .int .u8 1] w fun e w' => e = .returned (.int .i64 r1) ∧ At wL ls ws vt vf w' ∧ Same wL w w' := by
  have H := Lib.hid h
  have HR := Lib.hid hr
  clear h hr
  go_enter Tryd.func90, Tryd.ntmps90
  go_wp2_with (first
    | (go_at_call 34; refine (word_ok wL ls x ws vt vf _ H.out).mono ?_; rintro e w1 ⟨rfl, ha, hs⟩; have HA := Lib.hid ha; have HS := Lib.hid hs; clear ha hs)
    | (go_at_call 15; refine (num_Read.calls x r1 0 _ HR.out).mono ?_; rintro e w2 ⟨rfl, hb⟩; have HB := Lib.hid hb; clear hb)
    | (go_at_call 36; refine (need_yes _).mono ?_; rintro e w3 ⟨rfl, hw⟩; rw [hw]))
  go_ret
  exact ⟨rfl, HA.out.later HB.out, HS.out.later HB.out⟩
theorem number_f3_ok (wL : World) (ls : List (List ByteArray)) (ws : List ByteArray) (n : Int) (r : List ByteArray) (hn : mkN 102 ws = some (n, r)) (vt vf : Value) (w : World) (h : At wL ls ws vt vf w) :
    Calls Tryd.prog 90 #[.pointer (some ⟨wL.heap.size, 0, none⟩), .int .u8 3] w fun e w' => e = .returned (.int .i64 n) ∧ At wL ls r vt vf w' ∧ Same wL w w' := by
  have H := Lib.hid h
  have HN := Lib.hid hn
  clear h hn
  go_enter Tryd.func90, Tryd.ntmps90
  go_wp2_with (first
    | (go_at_call 52; refine (mark_take wL ls ws 102 (by omega) (by omega) n r HN.out vt vf _ H.out).mono ?_; rintro e w1 ⟨rfl, ha, hs⟩; have HA := Lib.hid ha; have HS := Lib.hid hs; clear ha hs))
  go_ret
  exact ⟨rfl, HA.out, HS.out⟩
theorem number_f3_bad (wL : World) (ls : List (List ByteArray)) (ws : List ByteArray) (hn : mkN 102 ws = none) (vt vf : Value) (w : World) (h : At wL ls ws vt vf w) :
    Calls Tryd.prog 90 #[.pointer (some ⟨wL.heap.size, 0, none⟩), .int .u8 3] w (Gone wL w) := by
  have H := Lib.hid h
  have HN := Lib.hid hn
  clear h hn
  go_enter Tryd.func90, Tryd.ntmps90
  go_wp2_with (first
    | (go_at_call 52; refine (mark_fail wL ls ws 102 (by omega) (by omega) HN.out vt vf _ H.out).mono ?_; rintro e w1 ⟨rfl, hb⟩))
  exact ⟨rfl, rfl, hb⟩
theorem number_f18_ok (wL : World) (ls : List (List ByteArray)) (ws : List ByteArray) (n : Int) (r : List ByteArray) (hn : mkN 102 ws = some (n, r)) (vt vf : Value) (w : World) (h : At wL ls ws vt vf w) :
    Calls Tryd.prog 90 #[.pointer (some ⟨wL.heap.size, 0, none⟩), .int .u8 18] w fun e w' => e = .returned (.int .i64 n) ∧ At wL ls r vt vf w' ∧ Same wL w w' := by
  have H := Lib.hid h
  have HN := Lib.hid hn
  clear h hn
  go_enter Tryd.func90, Tryd.ntmps90
  go_wp2_with (first
    | (go_at_call 52; refine (mark_take wL ls ws 102 (by omega) (by omega) n r HN.out vt vf _ H.out).mono ?_; rintro e w1 ⟨rfl, ha, hs⟩; have HA := Lib.hid ha; have HS := Lib.hid hs; clear ha hs))
  go_ret
  exact ⟨rfl, HA.out, HS.out⟩
theorem number_f18_bad (wL : World) (ls : List (List ByteArray)) (ws : List ByteArray) (hn : mkN 102 ws = none) (vt vf : Value) (w : World) (h : At wL ls ws vt vf w) :
    Calls Tryd.prog 90 #[.pointer (some ⟨wL.heap.size, 0, none⟩), .int .u8 18] w (Gone wL w) := by
  have H := Lib.hid h
  have HN := Lib.hid hn
  clear h hn
  go_enter Tryd.func90, Tryd.ntmps90
  go_wp2_with (first
    | (go_at_call 52; refine (mark_fail wL ls ws 102 (by omega) (by omega) HN.out vt vf _ H.out).mono ?_; rintro e w1 ⟨rfl, hb⟩))
  exact ⟨rfl, rfl, hb⟩
theorem number_s_ok (wL : World) (ls : List (List ByteArray)) (ws : List ByteArray) (n : Int) (r : List ByteArray) (hn : smN ws = some (n, r)) (vt vf : Value) (w : World) (h : At wL ls ws vt vf w) :
    Calls Tryd.prog 90 #[.pointer (some ⟨wL.heap.size, 0, none⟩), .int .u8 14] w fun e w' => e = .returned (.int .i64 n) ∧ At wL ls r vt vf w' ∧ Same wL w w' := by
  have H := Lib.hid h
  have HN := Lib.hid hn
  clear h hn
  go_enter Tryd.func90, Tryd.ntmps90
  go_wp2_with (first
    | (go_at_call 54; refine (small_take wL ls ws n r HN.out vt vf _ H.out).mono ?_; rintro e w1 ⟨rfl, ha, hs⟩; have HA := Lib.hid ha; have HS := Lib.hid hs; clear ha hs))
  go_ret
  exact ⟨rfl, HA.out, HS.out⟩
theorem number_s_bad (wL : World) (ls : List (List ByteArray)) (ws : List ByteArray) (hn : smN ws = none) (vt vf : Value) (w : World) (h : At wL ls ws vt vf w) :
    Calls Tryd.prog 90 #[.pointer (some ⟨wL.heap.size, 0, none⟩), .int .u8 14] w (Gone wL w) := by
  have H := Lib.hid h
  have HN := Lib.hid hn
  clear h hn
  go_enter Tryd.func90, Tryd.ntmps90
  go_wp2_with (first
    | (go_at_call 54; refine (small_fail wL ls ws HN.out vt vf _ H.out).mono ?_; rintro e w1 ⟨rfl, hb⟩))
  exact ⟨rfl, rfl, hb⟩
theorem number_no (wL : World) (ls : List (List ByteArray)) (ws : List ByteArray) (op : Int) (ho : op ≠ 1 ∧ op ≠ 3 ∧ op ≠ 18 ∧ op ≠ 14) (vt vf : Value) (w : World) (h : At wL ls ws vt vf w) :
    Calls Tryd.prog 90 #[.pointer (some ⟨wL.heap.size, 0, none⟩), .int .u8 op] w fun e w' => e = .returned (.int .i64 0) ∧ At wL ls ws vt vf w' ∧ Same wL w w' := by
  have H := Lib.hid h
  have e1 : (op == 1) = false := beq_eq_false_iff_ne.2 ho.1
  have e3 : (op == 3) = false := beq_eq_false_iff_ne.2 ho.2.1
  have e18 : (op == 18) = false := beq_eq_false_iff_ne.2 ho.2.2.1
  have e14 : (op == 14) = false := beq_eq_false_iff_ne.2 ho.2.2.2
  clear ho
  clear h
  go_enter Tryd.func90, Tryd.ntmps90
  go_wp2
  go_ret
  exact ⟨rfl, H.out, Same.now _ _⟩
def numF (op : Int) (ws : List ByteArray) : Option (Int × List ByteArray) :=
  if op = 1 then (match ws with
    | [] => none
    | x :: r => if (readL x.data.toList).2 = 0 then some ((readL x.data.toList).1, r) else none)
  else if op = 3 then mkN 102 ws
  else if op = 18 then mkN 102 ws
  else if op = 14 then smN ws
  else some (0, ws)
theorem number_ok (wL : World) (ls : List (List ByteArray)) (op : Int) (ws : List ByteArray) (n : Int) (r : List ByteArray) (hk : numF op ws = some (n, r)) (vt vf : Value) (w : World) (h : At wL ls ws vt vf w) :
    Calls Tryd.prog 90 #[.pointer (some ⟨wL.heap.size, 0, none⟩), .int .u8 op] w fun e w' => e = .returned (.int .i64 n) ∧ At wL ls r vt vf w' ∧ Same wL w w' := by
  unfold numF at hk
  by_cases h1 : op = 1
  · rw [if_pos h1] at hk
    subst h1
    cases ws with
    | nil => cases hk
    | cons x r' =>
      simp only at hk
      by_cases h0 : (readL x.data.toList).2 = 0
      · rw [if_pos h0] at hk
        injection hk with hk; injection hk with e1 e2; subst e1; subst e2
        exact number_int_ok wL ls x r' _ (show some (readL x.data.toList) = some ((readL x.data.toList).1, 0) by rw [← h0]) vt vf w h
      · rw [if_neg h0] at hk; cases hk
  rw [if_neg h1] at hk
  by_cases h3 : op = 3
  · rw [if_pos h3] at hk
    subst h3
    exact number_f3_ok wL ls ws n r hk vt vf w h
  rw [if_neg h3] at hk
  by_cases h18 : op = 18
  · rw [if_pos h18] at hk
    subst h18
    exact number_f18_ok wL ls ws n r hk vt vf w h
  rw [if_neg h18] at hk
  by_cases h14 : op = 14
  · rw [if_pos h14] at hk
    subst h14
    exact number_s_ok wL ls ws n r hk vt vf w h
  · rw [if_neg h14] at hk
    injection hk with hk; injection hk with e1 e2; subst e1; subst e2
    exact number_no wL ls ws op ⟨h1, h3, h18, h14⟩ vt vf w h
theorem number_bad (wL : World) (ls : List (List ByteArray)) (op : Int) (ws : List ByteArray) (hk : numF op ws = none) (vt vf : Value) (w : World) (h : At wL ls ws vt vf w) :
    Calls Tryd.prog 90 #[.pointer (some ⟨wL.heap.size, 0, none⟩), .int .u8 op] w (Gone wL w) := by
  unfold numF at hk
  by_cases h1 : op = 1
  · rw [if_pos h1] at hk
    subst h1
    cases ws with
    | nil => exact number_int_none wL ls vt vf w h
    | cons x r' =>
      simp only at hk
      by_cases h0 : (readL x.data.toList).2 = 0
      · rw [if_pos h0] at hk; cases hk
      · exact number_int_bad wL ls x r' _ _ (show some (readL x.data.toList) = some ((readL x.data.toList).1, (readL x.data.toList).2) from rfl) h0 vt vf w h
  rw [if_neg h1] at hk
  by_cases h3 : op = 3
  · rw [if_pos h3] at hk
    subst h3
    exact number_f3_bad wL ls ws hk vt vf w h
  rw [if_neg h3] at hk
  by_cases h18 : op = 18
  · rw [if_pos h18] at hk
    subst h18
    exact number_f18_bad wL ls ws hk vt vf w h
  rw [if_neg h18] at hk
  by_cases h14 : op = 14
  · rw [if_pos h14] at hk
    subst h14
    exact number_s_bad wL ls ws hk vt vf w h
  · rw [if_neg h14] at hk; cases hk
end Go.Proofs.YtlghkomipboflaaDoor.Rd
end
section
namespace Go.Proofs.YtlghkomipboflaaDoor
open Go.RowKit Go.Proofs.YtlghkomipboflaaDoorW.PrintWords Go.Proofs.YtlghkomipboflaaDoorW.PrintLast
set_option linter.unusedVariables false
set_option linter.unusedSimpArgs false
def hB (a : Int) : Bool := (decide (4 ≤ a) && decide (a ≤ 10)) || a == 15 || a == 17
def hA (a : Int) : Bool := hB a || a == 13 || a == 14 || a == 16 || a == 19 || a == 21
def hN (a : Int) : Bool := a == 1 || a == 3 || a == 14 || a == 18
def hG (a : Int) : Bool := a == 18 || a == 19 || a == 22
def hF (a : Int) : Bool := a == 22
def hR (a : Int) : Bool := decide (1 ≤ a) && decide (a ≤ 22) && a != 13 && a != 17 && a != 21
def rowB (i : Nat) : List Bool := [hA i, hB i, hN i, hG i, hF i, hR i]
def tabB : List Bool := (List.range 23).flatMap rowB
theorem tab_at : ∀ i, i < 23 → ∀ j, j < 6 → tabB[i * 6 + j]? = some ((rowB i).getD j false) := by decide +kernel
def ShTab (w : World) : Prop := w.var? Tryd.prog "fescue/shape.table" = some (tabB.map Value.bool).toArray
theorem gSh : Tryd.prog.globalNamed "fescue/shape.table" = some 0 := by kernel_rfl
theorem ShTab.cell {w : World} (h : ShTab w) (i j : Nat) (hi : i < 23) (hj : j < 6) : w.cell? ⟨0, i * 6 + j, none⟩ = some (.bool ((rowB i).getD j false)) := by
  have := World.var?_cell gSh h (i * 6 + j)
  rw [this, List.getElem?_toArray, List.getElem?_map, tab_at i hi j hj]
  rfl
theorem ShTab.below {w w' : World} (h : ShTab w) (hb : Below w.heap.size w w') : ShTab w' := by
  unfold ShTab World.var? at h ⊢
  rw [gSh] at h ⊢
  simp only [Option.bind_some] at h ⊢
  have hlt : 0 < w.heap.size := by
    rcases Nat.lt_or_ge 0 w.heap.size with h' | h'
    · exact h'
    · rw [Array.getElem?_eq_none h'] at h; cases h
  rw [hb.block _ hlt]
  exact h
def shape_of.f (a0 : Int) : Option (Bool × Bool × Bool × Bool × Bool × Bool) := if 0 ≤ a0 ∧ a0 ≤ 255 then some (hA a0, hB a0, hN a0, hG a0, hF a0, hR a0) else none
theorem big_none (a : Int) (h : 22 < a) : hA a = false ∧ hB a = false ∧ hN a = false ∧ hG a = false ∧ hF a = false ∧ hR a = false := by
  have e : ∀ k : Int, k ≤ 22 → (a == k) = false := fun k hk => by rw [beq_eq_false_iff_ne]; omega
  have d : decide (a ≤ 10) = false := decide_eq_false (by omega)
  have d2 : decide (a ≤ 22) = false := decide_eq_false (by omega)
  simp [hA, hB, hN, hG, hF, hR, e, d, d2]
set_option maxHeartbeats 800000 in
theorem of_small (n : Nat) (hn : n < 23) (w : World) (ht : ShTab w) :
    Calls Tryd.prog 62 #[.int .u8 n] w fun e w' => e = .returned (.agg #[.bool (hA n), .bool (hB n), .bool (hN n), .bool (hG n), .bool (hF n), .bool (hR n)]) ∧ Below w.heap.size w w' := by
  have c0 := ht.cell n 0 hn (by omega)
  have c1 := ht.cell n 1 hn (by omega)
  have c2 := ht.cell n 2 hn (by omega)
  have c3 := ht.cell n 3 hn (by omega)
  have c4 := ht.cell n 4 hn (by omega)
  have c5 := ht.cell n 5 hn (by omega)
  simp only [rowB, List.getD_cons_zero, List.getD_cons_succ, Nat.add_zero] at c0 c1 c2 c3 c4 c5
  have hlt : 0 < w.heap.size := World.block_lt_of_cell? w _ c0
  have i0 : (0 : Int) ≤ (n : Int) := by omega
  have i1 : (n : Int) < 23 := by omega
  generalize hA (n : Int) = b0 at *
  generalize hB (n : Int) = b1 at *
  generalize hN (n : Int) = b2 at *
  generalize hG (n : Int) = b3 at *
  generalize hF (n : Int) = b4 at *
  generalize hR (n : Int) = b5 at *
  clear ht
  go_enter Tryd.func62, Tryd.ntmps62
  go_wp2
  exact bodyPost_ret (results_cell_row rfl _ _ w.heap.size 111 _ (0, 0) _ rfl (heap_alloc_new w _) Tryd.underlying111 rfl (by kernel_rfl)) rfl ⟨rfl, below_alloc (Below.refl _ _) _⟩
theorem of_big (a : Int) (h0 : 22 < a) (h1 : a ≤ 255) (w : World) :
    Calls Tryd.prog 62 #[.int .u8 a] w fun e w' => e = .returned (.agg #[.bool false, .bool false, .bool false, .bool false, .bool false, .bool false]) ∧ Below w.heap.size w w' := by
  have i1 : ¬ a < 23 := by omega
  go_enter Tryd.func62, Tryd.ntmps62
  go_wp2
  exact bodyPost_ret (results_cell_row rfl _ _ w.heap.size 111 _ (0, 0) _ rfl (heap_alloc_new w _) Tryd.underlying111 rfl (by kernel_rfl)) rfl ⟨rfl, below_alloc (Below.refl _ _) _⟩
theorem shape_of.calls (a0 : Int) (r1 r2 r3 r4 r5 r6 : Bool) (w : World) (h : shape_of.f a0 = some (r1, r2, r3, r4, r5, r6)) (ht : ShTab w) :
    Calls Tryd.prog 62 #[.int .u8 a0] w fun e w' => e = .returned (.agg #[.bool r1, .bool r2, .bool r3, .bool r4, .bool r5, .bool r6]) ∧ Below w.heap.size w w' := by
  unfold shape_of.f at h
  by_cases hs : 0 ≤ a0 ∧ a0 ≤ 255
  · rw [if_pos hs] at h
    simp only [Option.some.injEq, Prod.mk.injEq] at h
    obtain ⟨rfl, rfl, rfl, rfl, rfl, rfl⟩ := h
    by_cases h22 : a0 ≤ 22
    · obtain ⟨n, rfl⟩ : ∃ n : Nat, a0 = n := ⟨a0.toNat, by omega⟩
      exact of_small n (by omega) w ht
    · obtain ⟨e1, e2, e3, e4, e5, e6⟩ := big_none a0 (by omega)
      rw [e1, e2, e3, e4, e5, e6]
      exact of_big a0 (by omega) hs.2 w
  · rw [if_neg hs] at h; cases h
theorem field5 (b0 b1 b2 b3 b4 b5 : Bool) (W : World) : (Instr.field 111 (.agg #[.bool b0, .bool b1, .bool b2, .bool b3, .bool b4, .bool b5]) 5).run Tryd.prog W = .ok (.bool b5) W := by kernel_rfl
def shape_Answers.f (a0 : Int) : Option Bool := if 0 ≤ a0 ∧ a0 ≤ 255 then some (hR a0) else none
set_option maxRecDepth 100000 in
theorem shape_Answers.calls (a0 : Int) (r : Bool) (w : World) (h : shape_Answers.f a0 = some r) (ht : ShTab w) :
    Calls Tryd.prog 88 #[.int .u8 a0] w fun e w' => e = .returned (.bool r) ∧ Below w.heap.size w w' := by
  unfold shape_Answers.f at h
  by_cases hs : 0 ≤ a0 ∧ a0 ≤ 255
  · rw [if_pos hs] at h
    injection h with h
    subst h
    have hc := Lib.hid (fun W => shape_of.calls a0 (hA a0) (hB a0) (hN a0) (hG a0) (hF a0) (hR a0) W (by unfold shape_of.f; rw [if_pos hs]))
    have HT := Lib.hid ht
    generalize hR a0 = b5 at *
    generalize hF a0 = b4 at *
    generalize hG a0 = b3 at *
    generalize hN a0 = b2 at *
    generalize hA a0 = b0 at *
    generalize hB a0 = b1 at *
    clear ht
    have hf5 := field5 b0 b1 b2 b3 b4 b5
    go_enter Tryd.func88, Tryd.ntmps88
    go_wp2_with (go_at_call 62; refine (hc.out _ HT.out).mono ?_; rintro e w' ⟨rfl, hb⟩)
    go_ret
    exact ⟨rfl, hb⟩
  · rw [if_neg hs] at h; cases h
end Go.Proofs.YtlghkomipboflaaDoor
end

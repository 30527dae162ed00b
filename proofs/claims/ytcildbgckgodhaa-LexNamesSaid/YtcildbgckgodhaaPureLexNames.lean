/- The limits' and errors' numbers, and more examples. No condition. -/
import Derived.Test.YtcildbgckgodhaaXx9
import Derived.Test.YtcildbgckgodhaaParts
import Derived.Test.YtcildbgckgodhaaJoinA
namespace Go.Proofs.Ytcildbgckgodhaa.Pure
open Go.RowKit Go.Proofs.Ytcildbgckgodhaa Go.Proofs.Ytcildbgckgodhaa.X Go.Proofs.YtcildbgckgodhaaW.PrintWords Go.Proofs.YtcildbgckgodhaaW.PrintLast
set_option linter.unusedVariables false
def many : Nat → ByteArray
  | 0 => ⟨#[]⟩
  | n + 1 => many n ++ (⟨#[97, 32]⟩ : ByteArray)
theorem many_size (n : Nat) : (many n).size = 2 * n := by
  induction n with
  | zero => rfl
  | succ n ih =>
    have : (many (n + 1)).size = (many n).size + (⟨#[97, 32]⟩ : ByteArray).size := by simp [many]
    rw [this, ih]
    show 2 * n + 2 = _
    omega
def manyL : Nat → List UInt8
  | 0 => []
  | n + 1 => manyL n ++ [97, 32]
theorem many_data (n : Nat) : (many n).data.toList = manyL n := by
  induction n with
  | zero => rfl
  | succ n ih => simp [many, manyL, ih]
theorem lines_is (s : ByteArray) (l : List UInt8) (r : List (List ByteArray) × Int) (h : s.data.toList = l) (hs : s.size ≤ 16384) (hr : ansL (goL (splitL 10 l) []) = r) : linesP s = r := by
  rw [linesP_ans s hs, h, hr]
theorem none_ev (s : ByteArray) (h : markL s.data.toList 114 = (0, 10)) : Ev (fun k => fescuelaw05_none.f k s) true := by
  have p := progMark s 114
  have e : ((114 : UInt8).toNat : Int) = 114 := by decide
  rw [e, h] at p
  exact Ev.bind p (Ev.congr (f := fun _ => some true) (fun k => by rfl) (Ev.now _))
theorem mark_ev (s : ByteArray) (n : Int) (h : markL s.data.toList 114 = (n, 0)) : Ev (fun k => fescuelaw05_mark.f k s n) true := by
  have p := progMark s 114
  have e : ((114 : UInt8).toNat : Int) = 114 := by decide
  rw [e, h] at p
  exact Ev.bind p (Ev.congr (f := fun _ => some true) (fun k => by simp) (Ev.now _))
theorem ev_true {g : Nat → Option Bool} {f : Nat → Option Bool} (h : Ev g true) (k : Ev f true) : Ev (fun n => (g n).bind fun t => if t = true then f n else some false) true :=
  Ev.bind h (Ev.congr (fun n => by rw [if_pos rfl]) k)
theorem zero_bytes (n : Nat) : (strOfNums (List.replicate n 0)).data.toList = List.replicate n 0 := by
  simp [strOfNums]
theorem zero_size (n : Nat) : (strOfNums (List.replicate n 0)).size = n := by
  have : (strOfNums (List.replicate n 0)).data.toList.length = (strOfNums (List.replicate n 0)).size := by simp
  rw [← this, zero_bytes]; simp
theorem any_zero (n : Nat) : Lib.indexAny (List.replicate n 0) [32, 9, 13, 10, 35] = -1 := by
  induction n with
  | zero => rfl
  | succ n ih =>
    rw [List.replicate_succ, Lib.indexAny, if_neg (by decide), ih]
    rfl
theorem zero_ok (n : Nat) (h : 0 < n) : okWord (strOfNums (List.replicate n 0)) = true := by
  unfold okWord badW Lib.containsAny
  rw [zero_bytes, ByteArray.toList_eq, zero_bytes]
  have e : setB.data.toList = [32, 9, 13, 10, 35] := rfl
  rw [e, any_zero]
  cases n with
  | zero => omega
  | succ n => rfl
theorem zero_few : fewB [[strOfNums (List.replicate 16384 0)]] = true := by
  have h1 : asciiB (strOfNums (List.replicate 16384 0)) = true := by
    unfold asciiB
    rw [zero_bytes, List.all_eq_true]
    intro b hb
    rw [(List.mem_replicate.1 hb).2]
    decide
  have h2 := zero_size 16384
  unfold fewB
  simp only [List.all_cons, List.all_nil, Bool.and_true, h1, h2, List.length_cons, List.length_nil]
  decide
theorem lineTo_one (x : ByteArray) : lineTo [x] 1 = x.data.toList := by simp [lineTo]
theorem zero_join : joinP [[strOfNums (List.replicate 16384 0)]] = (⟨#[]⟩, 4) := by
  have h1 : okRow [strOfNums (List.replicate 16384 0)] = true := by
    unfold okRow
    rw [List.all_cons, zero_ok _ (by omega)]
    rfl
  have h2 : (lineTo [strOfNums (List.replicate 16384 0)] 1) = List.replicate 16384 0 := by
    rw [lineTo_one, zero_bytes]
  unfold joinP
  rw [List.all_cons, h1]
  have h3 : outL [[strOfNums (List.replicate 16384 0)]] [] = none := by
    rw [outL, if_pos]
    right
    show 16384 < ([] ++ lineTo [strOfNums (List.replicate 16384 0)] 1 ++ [10]).length
    rw [h2, List.nil_append, List.length_append, List.length_replicate]
    decide
  rw [h3]
  rfl
theorem zero_lines : linesP (strOfNums (List.replicate 16385 0)) = ([], 4) := by
  unfold linesP
  rw [zero_size, if_pos (by omega)]
theorem many_lines : linesP (many 64) = ([List.replicate 64 ⟨#[97]⟩], 0) := by
  rw [linesP_ans _ (by rw [many_size]; omega), many_data]
  decide +kernel
theorem snoc_data (a : ByteArray) : (a ++ (⟨#[97]⟩ : ByteArray)).data.toList = a.data.toList ++ [97] := by simp
theorem snoc_size (a : ByteArray) : (a ++ (⟨#[97]⟩ : ByteArray)).size = a.size + 1 := by
  have : (a ++ (⟨#[97]⟩ : ByteArray)).size = a.size + (⟨#[97]⟩ : ByteArray).size := by simp
  rw [this]; rfl
theorem more_lines : linesP (many 64 ++ (⟨#[97]⟩ : ByteArray)) = ([], 4) := by
  rw [linesP_ans _ (by rw [snoc_size, many_size]; omega), snoc_data, many_data]
  decide +kernel
theorem join1 : lex_Join.f [[⟨#[97]⟩, ⟨#[98]⟩], [⟨#[99]⟩]] = some (⟨#[97, 32, 98, 10, 99, 10]⟩, 0) := by decide +kernel
theorem join2 : lex_Join.f [[]] = some (⟨#[]⟩, 2) := by decide +kernel
theorem join3 : lex_Join.f [[⟨#[97, 35]⟩]] = some (⟨#[]⟩, 2) := by decide +kernel
theorem join4 : lex_Join.f [[strOfNums (List.replicate 16384 0)]] = some (⟨#[]⟩, 4) := by
  unfold lex_Join.f
  rw [if_pos zero_few, zero_join]
theorem lexNames_end : Ev (fun k => fescuelaw05_LexNames.l0 k (many 64) 64) true := by
  have a1 := are_ok ⟨#[]⟩ [] (lines_is ⟨#[]⟩ [] ([], 0) rfl (by decide) (by decide +kernel))
  have a2 := are_ok ⟨#[13, 10, 97, 13, 10]⟩ [[⟨#[97]⟩]] (lines_is _ [13, 10, 97, 13, 10] ([[⟨#[97]⟩]], 0) rfl (by decide) (by decide +kernel))
  have hall := ev_true alive_ok (ev_true (none_ev ⟨#[114]⟩ (by decide +kernel)) (ev_true (none_ev ⟨#[120, 49]⟩ (by decide +kernel)) (ev_true (none_ev ⟨#[]⟩ (by decide +kernel)) (ev_true (none_ev ⟨#[114, 49, 48, 48, 48]⟩ (by decide +kernel)) (ev_true (mark_ev ⟨#[114, 57, 57, 57]⟩ 999 (by decide +kernel)) (ev_true (mark_ev ⟨#[114, 48]⟩ 0 (by decide +kernel)) (ev_true a1 (Ev.bind a2 (Ev.now true)))))))))
  refine Ev.step (fun k => ?_) hall
  have hsz : (many 64).size + 1 ≤ 9223372036854775807 := by rw [many_size]; omega
  simp only [fescuelaw05_LexNames.l0, lex_Lines.f, Option.bind_some, many_lines, more_lines, zero_lines, join1, join2, join3, join4]
  have c1 : (([List.replicate 64 (⟨#[97]⟩ : ByteArray)] : List (List ByteArray)).length : Int) = 1 := by rfl
  have c2 : (0 : Int) < (([List.replicate 64 (⟨#[97]⟩ : ByteArray)] : List (List ByteArray)).length : Int) := by decide
  have c3 : ((rd_L2 [List.replicate 64 (⟨#[97]⟩ : ByteArray)] 0).length : Int) = 64 := by
    have : (rd_L2 [List.replicate 64 (⟨#[97]⟩ : ByteArray)] 0) = List.replicate 64 (⟨#[97]⟩ : ByteArray) := rfl
    rw [this, List.length_replicate]; rfl
  have c4 : (⟨#[97, 32, 98, 10, 99, 10]⟩ : ByteArray).toList = [97, 32, 98, 10, 99, 10] := by rw [ByteArray.toList_eq]
  rw [if_neg (by omega), if_pos hsz, if_pos (by omega), if_pos (by omega)]
  simp only [if_pos c1, if_pos c2, if_pos c3, if_pos c4, if_true]
theorem lexNames_l0 : ∀ (d i : Nat), 64 - i = d → i ≤ 64 → Ev (fun k => fescuelaw05_LexNames.l0 k (many i) (i : Int)) true := by
  intro d
  induction d with
  | zero =>
    intro i hd hi
    have : i = 64 := by omega
    subst this
    exact lexNames_end
  | succ d ih =>
    intro i hd hi
    have hw : wrap64 ((i : Int) + 1) = ((i + 1 : Nat) : Int) := by unfold wrap64; omega
    refine Ev.step (f := fun k => fescuelaw05_LexNames.l0 k (many (i + 1)) ((i + 1 : Nat) : Int)) (fun k => ?_) (ih (i + 1) (by omega) (by omega))
    simp only [fescuelaw05_LexNames.l0]
    rw [if_pos (by omega), if_pos (by rw [many_size]; omega), hw]
    rfl
theorem LexNames : fescuelaw05_LexNames.Pure := by
  apply Ev.rounds (r := true)
  exact lexNames_l0 64 0 rfl (by omega)
end Go.Proofs.Ytcildbgckgodhaa.Pure

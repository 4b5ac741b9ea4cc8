/- The plain half of ShellParses, last part: both readers come to 'specL' of the lines; the law. -/
import Derived.Test.YtmjneidcdeeafaaDoorPureD
namespace Go.Proofs.YtmjneidcdeeafaaDoor.Pure
open Go.RowKit Go.Lib Go.Proofs.YtmjneidcdeeafaaDoor.Plain Go.Proofs.YtmjneidcdeeafaaDoor.QP Go.Proofs.YtmjneidcdeeafaaDoorW.PrintWords Go.Proofs.YtmjneidcdeeafaaDoorW.PrintLast
set_option linter.unusedVariables false

theorem words_facts : ∀ (l cur : List UInt8), (∀ w ∈ wordsGo cur l, w ≠ []) ∧ (wordsGo cur l).length ≤ cur.length + l.length
  | [], cur => by
    unfold wordsGo
    by_cases h : cur = []
    · simp [h]
    · have : 1 ≤ cur.length := List.length_pos_iff.2 h
      simp [h]; omega
  | c :: t, cur => by
    unfold wordsGo
    by_cases hc : c = 32
    · rw [if_pos hc]
      have ih := words_facts t []
      by_cases h : cur = []
      · rw [if_pos h]
        exact ⟨ih.1, by have := ih.2; simp at this ⊢; omega⟩
      · rw [if_neg h]
        refine ⟨fun w hw => ?_, by have := ih.2; have h1 : 1 ≤ cur.length := List.length_pos_iff.2 h; simp at this ⊢; omega⟩
        rcases List.mem_cons.1 hw with rfl | hw
        · exact h
        · exact ih.1 w hw
    · rw [if_neg hc]
      have ih := words_facts t (cur ++ [c])
      exact ⟨ih.1, by have := ih.2; simp at this ⊢; omega⟩
theorem lines_facts : ∀ (l cur : List UInt8), (∀ w ∈ linesGo cur l, w.length ≤ cur.length + l.length) ∧ (linesGo cur l).length ≤ l.length + 1
  | [], cur => by
    unfold linesGo
    by_cases h : cur = [] <;> simp [h]
  | c :: t, cur => by
    unfold linesGo
    by_cases hc : c = 10
    · rw [if_pos hc]
      have ih := lines_facts t []
      refine ⟨fun w hw => ?_, by have := ih.2; simp; omega⟩
      rcases List.mem_cons.1 hw with rfl | hw
      · simp
      · have := ih.1 w hw
        simp at this ⊢
        omega
    · rw [if_neg hc]
      have ih := lines_facts t (cur ++ [c])
      exact ⟨fun w hw => by have := ih.1 w hw; simp at this ⊢; omega, by have := ih.2; simp; omega⟩
theorem wordsB_facts (s : ByteArray) (hs : s.size ≤ 1000000) : (wordsB s).length ≤ 1000000 ∧ (0 < (wordsB s).length → 0 < (rdOf ByteArray.empty (wordsB s) 0).size) := by
  have h := words_facts s.data.toList []
  refine ⟨by have := h.2; rw [← size_eq] at this; unfold wordsB words; simp at this ⊢; omega, fun h0 => ?_⟩
  unfold wordsB words at h0 ⊢
  cases hw : wordsGo [] s.data.toList with
  | nil => rw [hw] at h0; simp at h0
  | cons w t =>
    have hne := h.1 w (by rw [hw]; exact List.mem_cons_self)
    show 0 < (toB w).size
    rw [toB_size]
    exact List.length_pos_iff.2 hne

/-- what a line's words say -/
def lineR (ws : List ByteArray) : ByteArray × List ByteArray × Bool :=
  if ws.length = 0 then (⟨#[]⟩, [], true) else if bt (rdOf ByteArray.empty ws 0) 0 = 35 then (⟨#[]⟩, [], true) else if canB ws = true then (rdOf ByteArray.empty ws 0, ws.drop 1, true) else (⟨#[]⟩, [], false)
theorem parsed_ev (s : ByteArray) (hs : s.size ≤ 1000000) : Ev (fun k => shell_parsed.f k s) (lineR (wordsB s)) := by
  obtain ⟨hl, hne⟩ := wordsB_facts s hs
  have hf : strings_FieldsFunc.f s = some (wordsB s) := by
    show Ext.fieldsF s = _
    unfold Ext.fieldsF
    rw [if_pos (by omega), fields_words]
    rfl
  refine Ev.congr (f := fun k => shell_parsed.g k (wordsB s)) (fun k => by unfold shell_parsed.f; rw [hf, Option.bind_some]) ?_
  generalize wordsB s = ws at hl hne
  unfold lineR
  by_cases h0 : ws.length = 0
  · rw [if_pos h0]
    exact Ev.congr (fun k => by unfold shell_parsed.g; rw [if_pos h0]) (Ev.now _)
  rw [if_neg h0]
  have h1 := hne (by omega)
  by_cases h35 : bt (rdOf ByteArray.empty ws 0) 0 = 35
  · rw [if_pos h35]
    exact Ev.congr (fun k => by unfold shell_parsed.g; rw [if_neg h0, if_pos ⟨h1, by omega⟩, if_pos h35]) (Ev.now _)
  rw [if_neg h35]
  have hS := shape_ev (rdOf ByteArray.empty ws 0)
  unfold canB
  generalize shapeL (rdOf ByteArray.empty ws 0).data.toList = s' at hS ⊢
  refine Ev.congr (f := fun k => (shell_shape.f k (rdOf ByteArray.empty ws 0)).bind fun s => if s.2 = true then (if s.1.size = ws.length - 1 then (shell_parsed.fitsL s.1 ws s.1.size 0).bind fun b => if b = true then some (rdOf ByteArray.empty ws 0, ws.drop 1, true) else some (⟨#[]⟩, [], false) else some (⟨#[]⟩, [], false)) else some (⟨#[]⟩, [], false)) (fun k => by unfold shell_parsed.g; rw [if_neg h0, if_pos ⟨h1, by omega⟩, if_neg h35]) ?_
  refine Ev.bind (f := fun k s => if s.2 = true then (if s.1.size = ws.length - 1 then (shell_parsed.fitsL s.1 ws s.1.size 0).bind fun b => if b = true then some (rdOf ByteArray.empty ws 0, ws.drop 1, true) else some (⟨#[]⟩, [], false) else some (⟨#[]⟩, [], false)) else some (⟨#[]⟩, [], false)) hS ?_
  refine Ev.congr (fun k => ?_) (Ev.now _)
  by_cases h2 : s'.2 = true
  · rw [if_pos h2, h2, Bool.true_and]
    by_cases h3 : s'.1.size = ws.length - 1
    · rw [if_pos h3, fitsL_some, Option.bind_some, decide_eq_true (by omega : s'.1.size + 1 = ws.length), Bool.true_and]
      split <;> rfl
    · rw [if_neg h3, decide_eq_false (by omega : ¬ s'.1.size + 1 = ws.length), Bool.false_and]
      rfl
  · have h2' : s'.2 = false := by simpa using h2
    rw [if_neg h2, h2', Bool.false_and]
    rfl

/-- the commands of lines: n the next line's number, acc the commands so far -/
def specL : List (List UInt8) → Int → List S28 → (List S28 × Int × Int)
  | [], _, acc => (acc, 0, 0)
  | l :: t, n, acc =>
    if (wordsB (toB l)).length = 0 ∨ bt (rdOf ByteArray.empty (wordsB (toB l)) 0) 0 = 35 then specL t (n + 1) acc
    else if canB (wordsB (toB l)) = true ∧ acc.length < 300 then specL t (n + 1) (acc ++ [(⟨n, rdOf ByteArray.empty (wordsB (toB l)) 0, (wordsB (toB l)).drop 1⟩ : S28)])
    else ([], n, 300)

theorem cut_some (x0 : ByteArray) (hs : x0.size ≤ 1000000) : ∃ b, strings_Cut.f x0 ⟨#[10]⟩ = some (toB (cutLine x0.data.toList).1, toB (cutLine x0.data.toList).2, b) := by
  have e : strings_Cut.f x0 ⟨#[10]⟩ = Ext.cutF x0 ⟨#[10]⟩ := rfl
  rw [e]
  unfold Ext.cutF
  rw [if_pos ⟨rfl, by omega⟩]
  by_cases hi : 0 ≤ indexByte x0.data.toList 10
  · rw [if_pos hi]
    obtain ⟨n, hn⟩ := Int.eq_ofNat_of_zero_le hi
    refine ⟨true, ?_⟩
    rw [hn, cutLine_found _ n hn]
    simp only [Int.toNat_natCast, Option.some.injEq, Prod.mk.injEq, and_true]
    refine ⟨ext_B ?_, ext_B ?_⟩
    · rw [extract_data, toB_data]; simp
    · rw [extract_data, toB_data, size_eq, List.take_of_length_le (by simp)]
  · rw [if_neg hi]
    refine ⟨false, ?_⟩
    rw [cutLine_none _ hi]
    simp only [Option.some.injEq, Prod.mk.injEq, and_true]
    exact ⟨ext_B (by rw [toB_data]), rfl⟩

theorem script_ev : ∀ (N : Nat) (x0 : ByteArray) (acc : List S28) (n : Int), x0.size ≤ N → x0.size ≤ 1000000 → 0 ≤ n → n + x0.size ≤ 10000000 → acc.length ≤ 300 →
    ∃ K, ∀ k m, K ≤ k → K ≤ m → shell_script.l k m x0 acc n = some (specL (linesGo [] x0.data.toList) n acc)
  | 0, x0, acc, n, hN, hs, h0, hn, ha => by
    have hz : x0.toList = [] := (toList_nil x0).2 (by omega)
    have hz2 : x0.data.toList = [] := by rw [← toList_data]; exact hz
    refine ⟨1, fun k m _ hm => ?_⟩
    obtain ⟨m, rfl⟩ : ∃ j, m = j + 1 := ⟨m - 1, by omega⟩
    rw [shell_script.l, if_pos hz, hz2, linesGo, if_pos rfl, specL]
  | N + 1, x0, acc, n, hN, hs, h0, hn, ha => by
    by_cases hz : x0.toList = []
    · have hz2 : x0.data.toList = [] := by rw [← toList_data]; exact hz
      refine ⟨1, fun k m _ hm => ?_⟩
      obtain ⟨m, rfl⟩ : ∃ j, m = j + 1 := ⟨m - 1, by omega⟩
      rw [shell_script.l, if_pos hz, hz2, linesGo, if_pos rfl, specL]
    · have hz2 : x0.data.toList ≠ [] := by rw [← toList_data]; exact hz
      have hlen := cutLine_len _ hz2
      have hcutg := linesGo_cut x0.data.toList []
      rw [if_neg (fun h => hz2 h.2), List.nil_append] at hcutg
      obtain ⟨b, hcut⟩ := cut_some x0 hs
      rw [hcutg]
      generalize cutLine x0.data.toList = c at hcut hlen
      have hsz : x0.data.toList.length = x0.size := (size_eq x0).symm
      have hs1 : (toB c.1).size ≤ 1000000 := by rw [toB_size]; omega
      have hs2 : (toB c.2).size < x0.size := by rw [toB_size]; omega
      obtain ⟨K1, hK1⟩ := parsed_ev (toB c.1) hs1
      obtain ⟨hl, hne⟩ := wordsB_facts (toB c.1) hs1
      have e1 : wrap64 (n + 1) = n + 1 := w64 (by omega) (by omega)
      rw [specL]
      have step : ∀ k m, K1 ≤ k → shell_script.l k (m + 1) x0 acc n = (if (lineR (wordsB (toB c.1))).2.2 = true then (if (lineR (wordsB (toB c.1))).1.toList = [] then shell_script.l k m (toB c.2) acc (n + 1) else if 300 ≤ (acc.length : Int) then some ([], n, 300) else shell_script.l k m (toB c.2) (acc ++ [(⟨n, (lineR (wordsB (toB c.1))).1, (lineR (wordsB (toB c.1))).2.1⟩ : S28)]) (n + 1)) else some ([], n, 300)) := by
        intro k m hk
        rw [shell_script.l, if_neg hz, hcut, Option.bind_some]
        simp only
        have h9 : shell_parsed.f k (toB c.1) = some (lineR (wordsB (toB c.1))) := hK1 k hk
        rw [h9, Option.bind_some, e1]
      generalize wordsB (toB c.1) = ws at step hl hne
      by_cases hq : ws.length = 0 ∨ bt (rdOf ByteArray.empty ws 0) 0 = 35
      · rw [if_pos hq]
        have hr : lineR ws = (⟨#[]⟩, [], true) := by
          unfold lineR
          by_cases hq0 : ws.length = 0
          · rw [if_pos hq0]
          · rw [if_neg hq0, if_pos (hq.resolve_left hq0)]
        rw [hr] at step
        obtain ⟨K2, hK2⟩ := script_ev N (toB c.2) acc (n + 1) (by omega) (by omega) (by omega) (by omega) ha
        rw [toB_data] at hK2
        refine ⟨max K1 (K2 + 1), fun k m hk hm => ?_⟩
        obtain ⟨m, rfl⟩ : ∃ j, m = j + 1 := ⟨m - 1, by omega⟩
        rw [step k m (by omega), if_pos rfl, if_pos ((toList_nil _).2 rfl)]
        exact hK2 k m (by omega) (by omega)
      · rw [if_neg hq]
        have hq0 : ¬ ws.length = 0 := fun h => hq (.inl h)
        have hq1 : ¬ bt (rdOf ByteArray.empty ws 0) 0 = 35 := fun h => hq (.inr h)
        by_cases hcan : canB ws = true
        · have hr : lineR ws = (rdOf ByteArray.empty ws 0, ws.drop 1, true) := by
            unfold lineR
            rw [if_neg hq0, if_neg hq1, if_pos hcan]
          have hw0 : ¬ (rdOf ByteArray.empty ws 0).toList = [] := fun h => by
            have h5 := (toList_nil _).1 h
            have h6 := hne (by omega)
            omega
          rw [hr] at step
          by_cases h300 : acc.length < 300
          · rw [if_pos ⟨hcan, h300⟩]
            obtain ⟨K2, hK2⟩ := script_ev N (toB c.2) (acc ++ [(⟨n, rdOf ByteArray.empty ws 0, ws.drop 1⟩ : S28)]) (n + 1) (by omega) (by omega) (by omega) (by omega) (by simp; omega)
            rw [toB_data] at hK2
            refine ⟨max K1 (K2 + 1), fun k m hk hm => ?_⟩
            obtain ⟨m, rfl⟩ : ∃ j, m = j + 1 := ⟨m - 1, by omega⟩
            rw [step k m (by omega), if_pos rfl, if_neg hw0, if_neg (by omega)]
            exact hK2 k m (by omega) (by omega)
          · rw [if_neg (fun h => h300 h.2)]
            refine ⟨max K1 1, fun k m hk hm => ?_⟩
            obtain ⟨m, rfl⟩ : ∃ j, m = j + 1 := ⟨m - 1, by omega⟩
            rw [step k m (by omega), if_pos rfl, if_neg hw0, if_pos (by omega)]
        · rw [if_neg (fun h => hcan h.1)]
          have hr : lineR ws = (⟨#[]⟩, [], false) := by
            unfold lineR
            rw [if_neg hq0, if_neg hq1, if_neg hcan]
          rw [hr] at step
          refine ⟨max K1 1, fun k m hk hm => ?_⟩
          obtain ⟨m, rfl⟩ : ∃ j, m = j + 1 := ⟨m - 1, by omega⟩
          rw [step k m (by omega), if_neg (by simp)]

theorem ref_loop (L : List (List UInt8)) (hL : ∀ w ∈ L, w.length ≤ 1000000) (hc : L.length ≤ 1000001) : ∀ (d i : Nat) (acc : List S28), i + d = L.length → acc.length ≤ 300 →
    Ev (fun k => sedimentref30_Parse.l0 k acc (L.map toB) i) (specL (L.drop i) ((i : Int) + 1) acc)
  | 0, i, acc, hd, ha => by
    have hdrop : L.drop i = [] := List.drop_eq_nil_of_le (by omega)
    rw [hdrop, specL]
    exact Ev.step (f := fun _ => some (acc, 0, 0)) (fun k => by simp only [sedimentref30_Parse.l0]; rw [if_neg (by simp; omega)]) (Ev.now _)
  | d + 1, i, acc, hd, ha => by
    have hi : i < L.length := by omega
    have hdrop : L.drop i = L[i] :: L.drop (i + 1) := List.drop_eq_getElem_cons hi
    have hrd : rdOf ByteArray.empty (L.map toB) (i : Int) = toB L[i] := by simp [rdOf, List.getD, hi]
    have hsz : (toB L[i]).size ≤ 1000000 := by rw [toB_size]; exact hL _ (List.getElem_mem hi)
    obtain ⟨hl, hne⟩ := wordsB_facts _ hsz
    have hW := words_ev (toB L[i]) hsz
    have e1 : wrap64 ((i : Int) + 1) = (i : Int) + 1 := w64 (by omega) (by omega)
    rw [hdrop, specL]
    generalize wordsB (toB L[i]) = ws at hl hne hW
    have ih := fun acc' (h : List.length acc' ≤ 300) => ref_loop L hL hc d (i + 1) acc' (by omega) h
    have next : ∀ acc' : List S28, acc'.length ≤ 300 → Ev (fun k => sedimentref30_Parse.l0 k acc' (L.map toB) ((i : Int) + 1)) (specL (L.drop (i + 1)) ((i : Int) + 1 + 1) acc') := fun acc' h => ih acc' h
    clear ih
    refine Ev.step (f := fun k => (sedimentref30_Words.f k (toB L[i])).bind fun t142 => (if (t142.length : Int) = 0 then (sedimentref30_Parse.j1 k acc (L.map toB) i t142 true) else (if 0 < (t142.length : Int) then (if 0 < ((rdOf ByteArray.empty t142 0).size : Int) then (sedimentref30_Parse.j1 k acc (L.map toB) i t142 ((bt (rdOf ByteArray.empty t142 0) 0) == 35)) else (none)) else (none)))) (fun k => by
      simp only [sedimentref30_Parse.l0]
      rw [if_pos (by simp; omega), if_pos (by omega), hrd]) ?_
    refine Ev.bind (f := fun k t142 => (if (t142.length : Int) = 0 then (sedimentref30_Parse.j1 k acc (L.map toB) i t142 true) else (if 0 < (t142.length : Int) then (if 0 < ((rdOf ByteArray.empty t142 0).size : Int) then (sedimentref30_Parse.j1 k acc (L.map toB) i t142 ((bt (rdOf ByteArray.empty t142 0) 0) == 35)) else (none)) else (none)))) hW ?_
    have skip : Ev (fun k => sedimentref30_Parse.j1 k acc (L.map toB) i ws true) (specL (L.drop (i + 1)) ((i : Int) + 1 + 1) acc) :=
      Ev.step (f := fun k => sedimentref30_Parse.l0 k acc (L.map toB) ((i : Int) + 1)) (fun k => by simp only [sedimentref30_Parse.j1]; rw [if_pos trivial, e1]) (next acc ha)
    by_cases h0 : ws.length = 0
    · rw [if_pos (.inl h0)]
      exact Ev.congr (fun k => by rw [if_pos (by omega)]) skip
    have h1 := hne (by omega)
    by_cases h35 : bt (rdOf ByteArray.empty ws 0) 0 = 35
    · rw [if_pos (.inr h35)]
      exact Ev.congr (fun k => by rw [if_neg (by omega), if_pos (by omega), if_pos (by omega), beq_iff_eq.2 h35]) skip
    rw [if_neg (fun h => h.elim h0 h35)]
    refine Ev.congr (f := fun k => sedimentref30_Parse.j1 k acc (L.map toB) i ws false) (fun k => by rw [if_neg (by omega), if_pos (by omega), if_pos (by omega), beq_eq_false_iff_ne.2 h35]) ?_
    have hcan := can_ev ws (by omega) hl
    refine Ev.step (f := fun k => (sedimentref30_can.f k ws).bind fun t146 => (if t146 = true then (if (acc.length : Int) = 300 then (some (([] : List (S28)), (i : Int) + 1, 300)) else sedimentref30_Parse.l0 k (acc ++ [(⟨(i : Int) + 1, rdOf ByteArray.empty ws 0, (ws.drop 1)⟩ : S28)]) (L.map toB) ((i : Int) + 1)) else (some (([] : List (S28)), (i : Int) + 1, 300)))) (fun k => by
      simp only [sedimentref30_Parse.j1]
      rw [if_neg (by simp), e1, if_pos (by omega : 0 < (ws.length : Int)), if_pos (by omega : 1 ≤ (ws.length : Int)), if_pos (by omega : acc.length < 2932031007402)]) ?_
    refine Ev.bind (f := fun k t146 => (if t146 = true then (if (acc.length : Int) = 300 then (some (([] : List (S28)), (i : Int) + 1, 300)) else sedimentref30_Parse.l0 k (acc ++ [(⟨(i : Int) + 1, rdOf ByteArray.empty ws 0, (ws.drop 1)⟩ : S28)]) (L.map toB) ((i : Int) + 1)) else (some (([] : List (S28)), (i : Int) + 1, 300)))) hcan ?_
    by_cases hc2 : canB ws = true
    · by_cases h300 : acc.length < 300
      · rw [if_pos ⟨hc2, h300⟩]
        exact Ev.congr (fun k => by rw [if_pos hc2, if_neg (by omega)]) (next _ (by simp; omega))
      · rw [if_neg (fun h => h300 h.2)]
        exact Ev.congr (fun k => by rw [if_pos hc2, if_pos (by omega)]) (Ev.now _)
    · rw [if_neg (fun h => hc2 h.1)]
      exact Ev.congr (fun k => by rw [if_neg hc2]) (Ev.now _)

/-- the answer that both readers come to -/
def answer (s : ByteArray) : List S28 × Int × Int := if (s.size : Int) > 131072 then ([], 0, 2) else specL (linesGo [] s.data.toList) 1 []
theorem shell_ev (s : ByteArray) : Ev (fun k => shell_Parse.f k s) (answer s) := by
  unfold answer
  by_cases h : (s.size : Int) > 131072
  · rw [if_pos h]
    exact Ev.congr (fun k => by unfold shell_Parse.f shell_script.f; rw [if_pos h]) (Ev.now _)
  · rw [if_neg h]
    obtain ⟨K, hK⟩ := script_ev s.size s [] 1 (Nat.le_refl _) (by omega) (by omega) (by omega) (by simp)
    exact ⟨K, fun k hk => by show shell_Parse.f k s = _; unfold shell_Parse.f shell_script.f; rw [if_neg h]; exact hK k k hk hk⟩
theorem ref_ev (s : ByteArray) : Ev (fun k => sedimentref30_Parse.f k s) (answer s) := by
  unfold answer
  by_cases h : (s.size : Int) > 131072
  · rw [if_pos h]
    exact Ev.congr (fun k => by unfold sedimentref30_Parse.f; rw [if_pos h]) (Ev.now _)
  · rw [if_neg h]
    have hf := lines_facts s.data.toList []
    rw [← size_eq] at hf
    refine Ev.congr (f := fun k => (sedimentref30_Lines.f k s).bind fun t => sedimentref30_Parse.l0 k ([] : List (S28)) t 0) (fun k => by unfold sedimentref30_Parse.f; rw [if_neg h]) ?_
    refine Ev.bind (f := fun k t => sedimentref30_Parse.l0 k ([] : List (S28)) t 0) (lines_ev s (by omega)) ?_
    have hr := ref_loop (linesGo [] s.data.toList) (fun w hw => by have := hf.1 w hw; simp at this; omega) (by have := hf.2; omega) (linesGo [] s.data.toList).length 0 [] (by omega) (by simp)
    rw [List.drop_zero] at hr
    exact hr
theorem answer_last : answer ⟨#[108, 97, 115, 116, 10]⟩ = ([(⟨1, ⟨#[108, 97, 115, 116]⟩, []⟩ : S28)], 0, 0) := by kernel_rfl

theorem args_loop (L : List S28) (i : Nat) (hi : i < L.length) : ∀ (d j : Nat), j + d = (rd_T28 L i).f2.length → (rd_T28 L i).f2.length ≤ 1000000 →
    Ev (fun k => sedimentlaw30_ShellParses.l0 k L L ((i : Int) + 1)) true → i ≤ 1000000 → Ev (fun k => sedimentlaw30_ShellParses.l1 k L L i j) true
  | 0, j, hd, hb, hn, hi2 => by
    have e1 : wrap64 ((i : Int) + 1) = (i : Int) + 1 := w64 (by omega) (by omega)
    refine Ev.step (f := fun k => sedimentlaw30_ShellParses.l0 k L L ((i : Int) + 1)) (fun k => ?_) hn
    simp only [sedimentlaw30_ShellParses.l1]
    rw [if_pos (by omega), if_pos (by omega), if_neg (by omega), e1]
  | d + 1, j, hd, hb, hn, hi2 => by
    have e1 : wrap64 ((j : Int) + 1) = (j : Int) + 1 := w64 (by omega) (by omega)
    have ih := args_loop L i hi d (j + 1) (by omega) hb hn hi2
    refine Ev.step (f := fun k => sedimentlaw30_ShellParses.l1 k L L i ((j + 1 : Nat) : Int)) (fun k => ?_) ih
    simp only [sedimentlaw30_ShellParses.l1]
    rw [if_pos (by omega), if_pos (by omega), if_pos (by omega), if_pos (by omega), if_pos (by omega), if_pos (by omega), if_pos trivial, e1]
    rfl

theorem specL_facts : ∀ (L : List (List UInt8)) (n : Int) (acc : List S28), (∀ w ∈ L, w.length ≤ 1000000) → acc.length ≤ 300 → (∀ x ∈ acc, x.f2.length ≤ 1000000) →
    (specL L n acc).1.length ≤ 300 ∧ ∀ x ∈ (specL L n acc).1, x.f2.length ≤ 1000000
  | [], n, acc, hL, ha, hx => ⟨ha, hx⟩
  | l :: t, n, acc, hL, ha, hx => by
    have hl := (wordsB_facts (toB l) (by rw [toB_size]; exact hL l List.mem_cons_self)).1
    have ht : ∀ w ∈ t, w.length ≤ 1000000 := fun w hw => hL w (List.mem_cons_of_mem _ hw)
    rw [specL]
    split
    · exact specL_facts t (n + 1) acc ht ha hx
    · split
      · rename_i h
        refine specL_facts t (n + 1) _ ht (by simp; omega) (fun x hm => ?_)
        rcases List.mem_append.1 hm with hm | hm
        · exact hx x hm
        · obtain rfl := List.mem_singleton.1 hm
          simp
          omega
      · exact ⟨by simp, fun x hx => by simp at hx⟩
theorem answer_facts (s : ByteArray) : (answer s).1.length ≤ 300 ∧ ∀ x ∈ (answer s).1, x.f2.length ≤ 1000000 := by
  unfold answer
  split
  · exact ⟨by simp, fun x hx => by simp at hx⟩
  · have hf := lines_facts s.data.toList []
    rw [← size_eq] at hf
    exact specL_facts _ _ _ (fun w hw => by have := hf.1 w hw; simp at this; omega) (by simp) (fun x hx => by simp at hx)
theorem list_loop (L : List S28) (hl : L.length ≤ 300) (hx : ∀ x ∈ L, x.f2.length ≤ 1000000) : ∀ (d i : Nat), i + d = L.length → Ev (fun k => sedimentlaw30_ShellParses.l0 k L L i) true
  | 0, i, hd => by
    refine Ev.step (f := fun k => (shell_Parse.f k (⟨#[108, 97, 115, 116, 10]⟩ : ByteArray)).bind fun bt166 => (if (bt166.1.length : Int) = 1 then (some (bt166.2.2 == 0)) else (some false))) (fun k => by simp only [sedimentlaw30_ShellParses.l0]; rw [if_neg (by omega)]) ?_
    have h := shell_ev ⟨#[108, 97, 115, 116, 10]⟩
    rw [answer_last] at h
    refine Ev.bind (f := fun k bt166 => (if (bt166.1.length : Int) = 1 then (some (bt166.2.2 == 0)) else (some false))) h ?_
    exact Ev.congr (fun k => by rfl) (Ev.now _)
  | d + 1, i, hd => by
    have hi : i < L.length := by omega
    have hrd : rd_T28 L i = L[i] := by simp [rd_T28, List.getD, hi]
    have hb : (rd_T28 L i).f2.length ≤ 1000000 := by rw [hrd]; exact hx _ (List.getElem_mem hi)
    have ih := list_loop L hl hx d (i + 1) (by omega)
    have ha := args_loop L i hi (rd_T28 L i).f2.length 0 (by omega) hb ih (by omega)
    refine Ev.step (f := fun k => sedimentlaw30_ShellParses.j2 k L L i false) (fun k => ?_) (Ev.step (f := fun k => sedimentlaw30_ShellParses.l1 k L L i ((0 : Nat) : Int)) (fun k => ?_) ha)
    · simp only [sedimentlaw30_ShellParses.l0]
      rw [if_pos (by omega), if_pos (by omega), if_pos (by omega), if_pos trivial, if_pos trivial, bne_self_eq_false]
    · simp only [sedimentlaw30_ShellParses.j2]
      rw [if_neg (by simp)]
      rfl
theorem ShellParses : sedimentlaw30_ShellParses.Pure := by
  intro a0 _
  obtain ⟨hl, hx⟩ := answer_facts a0
  have hloop := list_loop (answer a0).1 hl hx (answer a0).1.length 0 (by omega)
  have h1 := shell_ev a0
  have h2 := ref_ev a0
  generalize answer a0 = R at *
  refine Ev.rounds (g := fun k => sedimentlaw30_ShellParses.f k a0) ?_
  refine Ev.bind (g := fun k => shell_Parse.f k a0) (f := fun k bt156 => ((sedimentref30_Parse.f k a0).bind fun bt161 => (if bt156.2.1 = bt161.2.1 then (if bt156.2.2 = bt161.2.2 then (sedimentlaw30_ShellParses.j0 k bt156.1 bt161.1 ((bt156.1.length : Int) != (bt161.1.length : Int))) else (sedimentlaw30_ShellParses.j0 k bt156.1 bt161.1 true)) else (sedimentlaw30_ShellParses.j0 k bt156.1 bt161.1 true)))) h1 ?_
  refine Ev.bind (g := fun k => sedimentref30_Parse.f k a0) (f := fun k bt161 => (if R.2.1 = bt161.2.1 then (if R.2.2 = bt161.2.2 then (sedimentlaw30_ShellParses.j0 k R.1 bt161.1 ((R.1.length : Int) != (bt161.1.length : Int))) else (sedimentlaw30_ShellParses.j0 k R.1 bt161.1 true)) else (sedimentlaw30_ShellParses.j0 k R.1 bt161.1 true))) h2 ?_
  refine Ev.step (f := fun k => sedimentlaw30_ShellParses.l0 k R.1 R.1 0) (fun k => ?_) hloop
  rw [if_pos rfl, if_pos rfl, bne_self_eq_false]
  simp only [sedimentlaw30_ShellParses.j0]
  rw [if_neg (by simp)]
end Go.Proofs.YtmjneidcdeeafaaDoor.Pure

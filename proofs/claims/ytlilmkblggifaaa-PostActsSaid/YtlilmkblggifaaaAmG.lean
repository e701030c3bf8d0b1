/- Part of a proof: contracts of functions of the given program, by abstract states. -/
import Derived.Test.YtlilmkblggifaaaAmF
import Derived.Test.YtlilmkblggifaaaAmD
namespace Go.AM
open Go.Proofs

/-- What is left on its way behind an act. -/
def doL (l : List Msg) (a : PAct) : List Msg :=
  if a.d = 0 then (if mayB a.msg then l ++ [a.msg] else l)
  else if a.d = 1 then loseL l a.n
  else if a.d = 2 then (if 0 ≤ a.n ∧ a.n < l.length then l ++ [l.getD a.n.toNat default] else l)
  else if a.d = 3 then loseL l a.n
  else l

@[simp] theorem dflt_src : (default : Msg).src = 0 := rfl
@[simp] theorem dflt_dst : (default : Msg).dst = 0 := rfl
@[simp] theorem dflt_body : (default : Msg).body = [] := rfl

theorem c67' (m : Msg) : Pure Try.prog 67 [.agg (msgAV m)] (.b (mayB m)) := by
  have := c67 m.src m.dst (bytesAV m.body)
  simpa [mayB, msgAV] using this

set_option maxHeartbeats 4000000 in
set_option maxRecDepth 16000 in
theorem c14 (l : List Msg) (a : PAct) (hl : l.length < 200) (hm : ∀ m ∈ l, mayB m = true) (ha : a.msg.body.length ≤ 140737488355328) : Proc Try.prog 1 14 [.ptr 0 0, .sl .fro 3 (msgsAV l), .agg (pactAV a)] [(0, [.sl .own 3 (msgsAV l), .b true])] (.tup [.sl .fro 3 (msgsAV (doL l a)), .b true]) [(0, [.sl .own 3 (msgsAV (doL l a)), .b true])] := by
  have hbody : ∀ m ∈ l, m.body.length ≤ 140737488355328 := fun m h => by
    have := hm m h
    simp [mayB] at this
    omega
  have hl6 : l.length ≤ 1000000 := by omega
  obtain ⟨th, hth⟩ : ∃ th, th = decide (0 ≤ a.n ∧ a.n < l.length) := ⟨_, rfl⟩
  have hE : loseE l a.n = if th = true then 0 else 3 := by simp [loseE, hth]
  refine proc_of (cxb Try.prog 124 1 [0, 1, 5, 6, 7, 8, 9, 10, 11, 12, 13, 14, 26, 28, 29, 38, 51, 61, 87, 93, 108, 114] [5, 11] [6, 7]) 121 [.tmp 6, .tmp 7] Try.func14 rfl rfl rfl rfl rfl rfl (Nat.le_refl _) rfl ?_
  refine AWp.go [0, 1, 5] [0, 6] fun K hK => ?_
  simp [pactAV]
  refine hK _ _ ?_
  clear hK K
  refine AWp.step [0, 1, 5, 8] [0, 6] [(0, .ptr 0 0), (1, .sl .fro 3 (msgsAV l)), (5, .ptr 6 0), (8, .b th)] [(0, [.sl .own 3 (msgsAV l), .b true]), (6, [.i .i64 a.d, .i .i64 a.msg.src, .i .i64 a.msg.dst, .sl .fro 1 (bytesAV a.msg.body), .i .i64 a.n])] ?_ ?_
  · by_cases h1 : 0 ≤ a.n <;> simp [h1, hth]
  refine AWp.go [0, 1, 5, 8, 9] [0, 6] fun K hK => ?_
  simp
  refine hK _ _ ?_
  clear hK K
  refine AWp.mid [0, 1, 5, 8, 9] [0, 6] [(0, .ptr 0 0), (1, .sl .fro 3 (msgsAV l)), (5, .ptr 6 0), (8, .b th), (9, .i .i64 (loseE l a.n))] [(0, [.sl .own 3 (msgsAV l), .b true]), (6, [.i .i64 a.d, .i .i64 a.msg.src, .i .i64 a.msg.dst, .sl .fro 1 (bytesAV a.msg.body), .i .i64 a.n])] ?_ ?_
  · refine AWp.go [0, 1, 5, 8, 9, 26] [0, 6] fun K hK => ?_
    simp
    refine hK _ _ ?_
    clear hK K
    clear hth
    cases th
    · refine AWp.cond (t := true) (by simp) (fun _ => ?_) (by simp)
      refine AWp.goLast [0, 1, 5, 8, 9] [0, 6] fun K hK => ?_
      simp
      refine hK _ _ ?_
      simp [hE]
    · refine AWp.cond (t := false) (by simp) (by simp) (fun _ => AWp.skip ?_)
      simp [hE]
  refine AWp.seq ?_
  refine AWp.go [0, 1, 5, 8, 9, 28] [0, 6] fun K hK => ?_
  simp
  refine hK _ _ ?_
  clear hK K
  refine AWp.block ?_
  refine AWp.go [0, 1, 5, 8, 9, 28, 29] [0, 6] fun K hK => ?_
  simp
  refine hK _ _ ?_
  clear hK K
  by_cases h0 : a.d = 0
  · refine AWp.cond (t := true) (by simp [h0]) (fun _ => ?_) (by simp)
    refine AWp.go [0, 1, 5, 10] [0, 6] fun K hK => ?_
    simp
    refine call_proc [(0, 0)] none (c18 l true a.msg hl6 ha) (by simp [msgAV]) (by simp) ?_
    simp
    refine hK _ _ ?_
    clear hK K
    refine AWp.seq ?_
    refine AWp.go [0, 1, 5, 10, 38] [0, 6] fun K hK => ?_
    simp
    refine call_pure (c67' a.msg) (by simp [msgAV]) ?_
    simp
    refine hK _ _ ?_
    clear hK K
    cases hmay : mayB a.msg
    · refine AWp.cond (t := true) (by simp) (fun _ => ?_) (by simp)
      refine AWp.go [6, 7] [0] fun K hK => ?_
      simp
      refine hK _ _ (AWp.ret ?_)
      simp [sendE, sendL, hmay, doL, h0]
    · refine AWp.cond (t := false) (by simp) (by simp) (fun _ => AWp.skip ?_)
      show AWp _ _ _ _
      rw [show sendE true l a.msg = 0 by simp [sendE, hmay]; omega, show sendL true l a.msg = l ++ [a.msg] by simp [sendL, hmay, hl]]
      refine AWp.stepT (.take 1 (.take 3 (.take 7 (.take 8 (.alt 0 (.alt 2 (.alt 4 (.alt 5 (.alt 6 (.take 9 (.take 10 .fin)) .stop) .stop) .stop) (.alt 4 (.alt 2 (.alt 5 (.alt 6 (.take 9 (.take 10 .fin)) .stop) .stop) (.alt 5 (.alt 2 (.alt 6 (.take 9 (.take 10 .fin)) .stop) .stop) .stop)) .stop)) (.alt 4 (.alt 0 (.alt 2 (.alt 5 (.alt 6 (.take 9 (.take 10 .fin)) .stop) .stop) (.alt 5 (.alt 2 (.alt 6 (.take 9 (.take 10 .fin)) .stop) .stop) .stop)) (.alt 5 (.alt 0 (.alt 2 (.alt 6 (.take 9 (.take 10 .fin)) .stop) .stop) .stop) .stop)) .stop)))))) [6, 7] [0] [(6, .sl .own 3 (msgsAV (l ++ [a.msg]))), (7, .b true)] [(0, [.sl .own 3 (msgsAV (l ++ [a.msg])), .b true])] mix (by kernel_rfl) ?_ ?_
      focus
        refine atree.tk fun K1 h1 => ?_
        simp
        refine h1 _ _ ?_
        clear h1 K1
        refine atree.tk fun K1 h1 => ?_
        simp
        refine h1 _ _ ?_
        clear h1 K1
        refine atree.tk fun K1 h1 => ?_
        simp
        refine h1 _ _ ?_
        clear h1 K1
        refine atree.tk fun K1 h1 => ?_
        simp
        refine h1 _ _ ?_
        clear h1 K1
        refine atree.al (fun K1 h1 => ?_) ?_
        · simp
          refine h1 _ _ ?_
          clear h1 K1
          refine atree.al (fun K1 h1 => ?_) ?_
          · simp
            refine ⟨by omega, h1 _ _ ?_⟩
            clear h1 K1
            refine atree.a1 fun K1 h1 => ?_
            simp
            refine h1 _ _ ?_
            clear h1 K1
            refine atree.a1 fun K1 h1 => ?_
            simp
            refine h1 _ _ ?_
            clear h1 K1
            refine atree.a1 fun K1 h1 => ?_
            simp
            refine ⟨by omega, h1 _ _ ?_⟩
            clear h1 K1
            refine atree.tk fun K1 h1 => ?_
            simp
            refine h1 _ _ ?_
            clear h1 K1
            refine atree.tk fun K1 h1 => ?_
            simp
            refine h1 _ _ ?_
            clear h1 K1
            simp [msgsAV, msgAV]
          · refine atree.a1 fun K1 h1 => ?_
            simp
            refine h1 _ _ ?_
            clear h1 K1
            refine atree.al (fun K1 h1 => ?_) ?_
            · simp
              refine ⟨by omega, h1 _ _ ?_⟩
              clear h1 K1
              refine atree.a1 fun K1 h1 => ?_
              simp
              refine h1 _ _ ?_
              clear h1 K1
              refine atree.a1 fun K1 h1 => ?_
              simp
              refine ⟨by omega, h1 _ _ ?_⟩
              clear h1 K1
              refine atree.tk fun K1 h1 => ?_
              simp
              refine h1 _ _ ?_
              clear h1 K1
              refine atree.tk fun K1 h1 => ?_
              simp
              refine h1 _ _ ?_
              clear h1 K1
              simp [msgsAV, msgAV]
            · refine atree.a1 fun K1 h1 => ?_
              simp
              refine h1 _ _ ?_
              clear h1 K1
              refine atree.a1 fun K1 h1 => ?_
              simp
              refine ⟨by omega, h1 _ _ ?_⟩
              clear h1 K1
              refine atree.a1 fun K1 h1 => ?_
              simp
              refine ⟨by omega, h1 _ _ ?_⟩
              clear h1 K1
              refine atree.tk fun K1 h1 => ?_
              simp
              refine h1 _ _ ?_
              clear h1 K1
              refine atree.tk fun K1 h1 => ?_
              simp
              refine h1 _ _ ?_
              clear h1 K1
              simp [msgsAV, msgAV]
        · refine atree.a1 fun K1 h1 => ?_
          simp
          refine h1 _ _ ?_
          clear h1 K1
          refine atree.al (fun K1 h1 => ?_) ?_
          · simp
            refine h1 _ _ ?_
            clear h1 K1
            refine atree.al (fun K1 h1 => ?_) ?_
            · simp
              refine ⟨by omega, h1 _ _ ?_⟩
              clear h1 K1
              refine atree.a1 fun K1 h1 => ?_
              simp
              refine h1 _ _ ?_
              clear h1 K1
              refine atree.a1 fun K1 h1 => ?_
              simp
              refine ⟨by omega, h1 _ _ ?_⟩
              clear h1 K1
              refine atree.tk fun K1 h1 => ?_
              simp
              refine h1 _ _ ?_
              clear h1 K1
              refine atree.tk fun K1 h1 => ?_
              simp
              refine h1 _ _ ?_
              clear h1 K1
              simp [msgsAV, msgAV]
            · refine atree.a1 fun K1 h1 => ?_
              simp
              refine h1 _ _ ?_
              clear h1 K1
              refine atree.a1 fun K1 h1 => ?_
              simp
              refine ⟨by omega, h1 _ _ ?_⟩
              clear h1 K1
              refine atree.a1 fun K1 h1 => ?_
              simp
              refine ⟨by omega, h1 _ _ ?_⟩
              clear h1 K1
              refine atree.tk fun K1 h1 => ?_
              simp
              refine h1 _ _ ?_
              clear h1 K1
              refine atree.tk fun K1 h1 => ?_
              simp
              refine h1 _ _ ?_
              clear h1 K1
              simp [msgsAV, msgAV]
          · refine atree.a1 fun K1 h1 => ?_
            simp
            refine h1 _ _ ?_
            clear h1 K1
            refine atree.a1 fun K1 h1 => ?_
            simp
            refine h1 _ _ ?_
            clear h1 K1
            refine atree.a1 fun K1 h1 => ?_
            simp
            refine ⟨by omega, h1 _ _ ?_⟩
            clear h1 K1
            refine atree.a1 fun K1 h1 => ?_
            simp
            refine ⟨by omega, h1 _ _ ?_⟩
            clear h1 K1
            refine atree.tk fun K1 h1 => ?_
            simp
            refine h1 _ _ ?_
            clear h1 K1
            refine atree.tk fun K1 h1 => ?_
            simp
            refine h1 _ _ ?_
            clear h1 K1
            simp [msgsAV, msgAV]
      refine AWp.frz [6] ?_
      simp
      refine AWp.ret ?_
      simp [doL, h0, hmay]
  refine AWp.cond (t := false) (by simp [h0]) (by simp) (fun _ => ?_)
  refine AWp.go [0, 1, 5, 8, 9, 28, 51] [0, 6] fun K hK => ?_
  simp
  refine hK _ _ ?_
  clear hK K
  by_cases h1 : a.d = 1
  · refine AWp.cond (t := true) (by simp [h1]) (fun _ => ?_) (by simp)
    refine AWp.go [0, 1, 5, 8, 9, 11, 12] [0, 6, 12] fun K hK => ?_
    simp
    refine call_proc [(0, 0)] none (c22 l true a.n hl6 hbody) (by simp) (by simp) ?_
    simp
    refine hK _ _ ?_
    clear hK K
    refine AWp.seq ?_
    refine AWp.go [0, 1, 5, 8, 9, 11, 12, 61] [0, 6, 12] fun K hK => ?_
    simp
    refine hK _ _ ?_
    clear hK K
    cases hq : th
    · have hn : ¬ (0 ≤ a.n ∧ a.n < l.length) := by simpa [hq] using hth
      refine AWp.cond (t := true) (by simp) (fun _ => ?_) (by simp)
      rw [show takeM l a.n = default by simp only [takeM, if_neg hn]]
      refine AWp.go [6, 7] [0] fun K hK => ?_
      simp
      refine call_pure (c68 (default : Msg).src (default : Msg).dst 0 0 (default : Msg).body [] (by decide)) (by simp [bytesAV]) ?_
      simp
      refine hK _ _ (AWp.ret ?_)
      simp [doL, h1, loseL, hn]
    · have hn : 0 ≤ a.n ∧ a.n < l.length := by simpa [hq] using hth
      refine AWp.cond (t := false) (by simp) (by simp) (fun _ => AWp.skip ?_)
      obtain ⟨k, hk0⟩ : ∃ k : Nat, a.n = k := ⟨a.n.toNat, by omega⟩
      have hk : k < l.length := by omega
      rw [hk0, show takeM l k = l[k] by simp [takeM, hk]]
      show AWp _ _ _ _
      refine AWp.stepT (.take 0 (.take 1 (.take 4 (.take 5 (.take 6 (.alt 2 (.alt 3 (.take 7 (.take 9 (.take 10 (.alt 8 (.alt 11 (.alt 12 (.alt 13 (.alt 14 (.take 15 (.take 16 (.take 17 .fin))) .stop) .stop) .stop) .stop) (.alt 11 (.alt 8 (.alt 12 (.alt 13 (.alt 14 (.take 15 (.take 16 (.take 17 .fin))) .stop) .stop) .stop) (.alt 12 (.alt 8 (.alt 13 (.alt 14 (.take 15 (.take 16 (.take 17 .fin))) .stop) .stop) (.alt 13 (.alt 8 (.alt 14 (.take 15 (.take 16 (.take 17 .fin))) .stop) .stop) .stop)) .stop)) .stop))))) .stop) .stop)))))) [6, 7] [0] [(6, .sl .own 3 (msgsAV (loseL l k))), (7, .b true)] [(0, [.sl .own 3 (msgsAV (loseL l k)), .b true])] mix (by kernel_rfl) ?_ ?_
      focus
        rw [show loseL l k = l.take k ++ l.drop (k + 1) by simp [loseL, hk]]
        refine atree.tk fun K1 g1 => ?_
        simp
        refine g1 _ _ ?_
        clear g1 K1
        refine atree.tk fun K1 g1 => ?_
        simp
        refine g1 _ _ ?_
        clear g1 K1
        refine atree.tk fun K1 g1 => ?_
        simp
        refine g1 _ _ ?_
        clear g1 K1
        refine atree.tk fun K1 g1 => ?_
        simp
        refine g1 _ _ ?_
        clear g1 K1
        refine atree.tk fun K1 g1 => ?_
        simp
        refine g1 _ _ ?_
        clear g1 K1
        refine atree.a1 fun K1 g1 => ?_
        simp
        refine g1 _ _ ?_
        clear g1 K1
        refine atree.a1 fun K1 g1 => ?_
        simp
        refine call_pure (c69 l k hk hl6) (by simp) ?_
        simp
        refine g1 _ _ ?_
        clear g1 K1
        refine atree.tk fun K1 g1 => ?_
        simp
        refine g1 _ _ ?_
        clear g1 K1
        refine atree.tk fun K1 g1 => ?_
        simp
        refine g1 _ _ ?_
        clear g1 K1
        refine atree.tk fun K1 g1 => ?_
        simp
        refine g1 _ _ ?_
        clear g1 K1
        refine atree.al (fun K1 g1 => ?_) ?_
        · simp
          refine g1 _ _ ?_
          clear g1 K1
          refine atree.a1 fun K1 g1 => ?_
          simp
          refine g1 _ _ ?_
          clear g1 K1
          refine atree.a1 fun K1 g1 => ?_
          simp [hk]
          refine g1 _ _ ?_
          clear g1 K1
          refine atree.a1 fun K1 g1 => ?_
          simp
          refine g1 _ _ ?_
          clear g1 K1
          refine atree.a1 fun K1 g1 => ?_
          simp
          refine call_pure (c68 l[k].src l[k].dst l[k].src l[k].dst l[k].body l[k].body (hbody _ (List.getElem_mem hk))) (by simp) ?_
          simp
          refine g1 _ _ ?_
          clear g1 K1
          refine atree.tk fun K1 g1 => ?_
          simp
          refine g1 _ _ ?_
          clear g1 K1
          refine atree.tk fun K1 g1 => ?_
          simp
          refine g1 _ _ ?_
          clear g1 K1
          refine atree.tk fun K1 g1 => ?_
          simp
          refine g1 _ _ ?_
          clear g1 K1
          simp
        · refine atree.a1 fun K1 g1 => ?_
          simp
          refine g1 _ _ ?_
          clear g1 K1
          refine atree.al (fun K1 g1 => ?_) ?_
          · simp
            refine g1 _ _ ?_
            clear g1 K1
            refine atree.a1 fun K1 g1 => ?_
            simp [hk]
            refine g1 _ _ ?_
            clear g1 K1
            refine atree.a1 fun K1 g1 => ?_
            simp
            refine g1 _ _ ?_
            clear g1 K1
            refine atree.a1 fun K1 g1 => ?_
            simp
            refine call_pure (c68 l[k].src l[k].dst l[k].src l[k].dst l[k].body l[k].body (hbody _ (List.getElem_mem hk))) (by simp) ?_
            simp
            refine g1 _ _ ?_
            clear g1 K1
            refine atree.tk fun K1 g1 => ?_
            simp
            refine g1 _ _ ?_
            clear g1 K1
            refine atree.tk fun K1 g1 => ?_
            simp
            refine g1 _ _ ?_
            clear g1 K1
            refine atree.tk fun K1 g1 => ?_
            simp
            refine g1 _ _ ?_
            clear g1 K1
            simp
          · refine atree.a1 fun K1 g1 => ?_
            simp [hk]
            refine g1 _ _ ?_
            clear g1 K1
            refine atree.al (fun K1 g1 => ?_) ?_
            · simp
              refine g1 _ _ ?_
              clear g1 K1
              refine atree.a1 fun K1 g1 => ?_
              simp
              refine g1 _ _ ?_
              clear g1 K1
              refine atree.a1 fun K1 g1 => ?_
              simp
              refine call_pure (c68 l[k].src l[k].dst l[k].src l[k].dst l[k].body l[k].body (hbody _ (List.getElem_mem hk))) (by simp) ?_
              simp
              refine g1 _ _ ?_
              clear g1 K1
              refine atree.tk fun K1 g1 => ?_
              simp
              refine g1 _ _ ?_
              clear g1 K1
              refine atree.tk fun K1 g1 => ?_
              simp
              refine g1 _ _ ?_
              clear g1 K1
              refine atree.tk fun K1 g1 => ?_
              simp
              refine g1 _ _ ?_
              clear g1 K1
              simp
            · refine atree.a1 fun K1 g1 => ?_
              simp
              refine g1 _ _ ?_
              clear g1 K1
              refine atree.a1 fun K1 g1 => ?_
              simp
              refine g1 _ _ ?_
              clear g1 K1
              refine atree.a1 fun K1 g1 => ?_
              simp
              refine call_pure (c68 l[k].src l[k].dst l[k].src l[k].dst l[k].body l[k].body (hbody _ (List.getElem_mem hk))) (by simp) ?_
              simp
              refine g1 _ _ ?_
              clear g1 K1
              refine atree.tk fun K1 g1 => ?_
              simp
              refine g1 _ _ ?_
              clear g1 K1
              refine atree.tk fun K1 g1 => ?_
              simp
              refine g1 _ _ ?_
              clear g1 K1
              refine atree.tk fun K1 g1 => ?_
              simp
              refine g1 _ _ ?_
              clear g1 K1
              simp
      refine AWp.frz [6] ?_
      simp
      refine AWp.ret ?_
      simp [doL, h1, hk0]
  refine AWp.cond (t := false) (by simp [h1]) (by simp) (fun _ => ?_)
  refine AWp.go [0, 1, 5, 8, 9, 28, 87] [0, 6] fun K hK => ?_
  simp
  refine hK _ _ ?_
  clear hK K
  by_cases h2 : a.d = 2
  · refine AWp.cond (t := true) (by simp [h2]) (fun _ => ?_) (by simp)
    refine AWp.go [0, 1, 5, 8, 9, 13] [0, 6] fun K hK => ?_
    simp
    refine call_proc [(0, 0)] none (c19 l true a.n hl6 hbody) (by simp) (by simp) ?_
    simp
    refine hK _ _ ?_
    clear hK K
    refine AWp.seq ?_
    refine AWp.go [0, 1, 5, 8, 9, 13, 93] [0, 6] fun K hK => ?_
    simp
    refine hK _ _ ?_
    clear hK K
    cases hq : th
    · have hn : ¬ (0 ≤ a.n ∧ a.n < l.length) := by simpa [hq] using hth
      refine AWp.cond (t := false) (by simp) (by simp) (fun _ => AWp.skip ?_)
      rw [show copyE true l a.n = 3 by simp only [copyE, if_neg hn], show copyL true l a.n = l by simp only [copyL, if_neg hn], show loseE l a.n = 3 by simp only [loseE, if_neg hn]]
      show AWp _ _ _ _
      refine AWp.go [6, 7] [0] fun K hK => ?_
      simp
      refine hK _ _ (AWp.ret ?_)
      simp only [doL, h2, if_neg hn]
      simp
    · have hn : 0 ≤ a.n ∧ a.n < l.length := by simpa [hq] using hth
      refine AWp.cond (t := true) (by simp) (fun _ => ?_) (by simp)
      obtain ⟨k, hk0⟩ : ∃ k : Nat, a.n = k := ⟨a.n.toNat, by omega⟩
      have hk : k < l.length := by omega
      have hmk := hm _ (List.getElem_mem hk)
      rw [hk0, show copyE true l k = 0 by simp [copyE, hk, sendE, hmk]; omega, show copyL true l k = l ++ [l[k]] by simp [copyL, hk, sendL, hmk, hl], show loseE l k = 0 by simp [loseE, hk]]
      refine AWp.last' [0, 1, 9, 13] [0] [(0, .ptr 0 0), (1, .sl .own 3 (msgsAV (l ++ [l[k]]))), (9, .i .i64 0), (13, .i .i64 0)] [(0, [.sl .own 3 (msgsAV (l ++ [l[k]])), .b true])] (AWp.tree (.take 1 (.take 3 (.take 4 (.alt 0 (.alt 2 (.alt 5 (.alt 6 (.alt 7 (.alt 8 (.alt 9 (.take 10 .fin) .stop) .stop) .stop) .stop) .stop) (.alt 5 (.alt 2 (.alt 6 (.alt 7 (.alt 8 (.alt 9 (.take 10 .fin) .stop) .stop) .stop) .stop) (.alt 6 (.alt 2 (.alt 7 (.alt 8 (.alt 9 (.take 10 .fin) .stop) .stop) .stop) (.alt 7 (.alt 2 (.alt 8 (.alt 9 (.take 10 .fin) .stop) .stop) (.alt 8 (.alt 2 (.alt 9 (.take 10 .fin) .stop) .stop) .stop)) .stop)) .stop)) .stop)) (.alt 5 (.alt 0 (.alt 2 (.alt 6 (.alt 7 (.alt 8 (.alt 9 (.take 10 .fin) .stop) .stop) .stop) .stop) (.alt 6 (.alt 2 (.alt 7 (.alt 8 (.alt 9 (.take 10 .fin) .stop) .stop) .stop) (.alt 7 (.alt 2 (.alt 8 (.alt 9 (.take 10 .fin) .stop) .stop) (.alt 8 (.alt 2 (.alt 9 (.take 10 .fin) .stop) .stop) .stop)) .stop)) .stop)) (.alt 6 (.alt 0 (.alt 2 (.alt 7 (.alt 8 (.alt 9 (.take 10 .fin) .stop) .stop) .stop) (.alt 7 (.alt 2 (.alt 8 (.alt 9 (.take 10 .fin) .stop) .stop) (.alt 8 (.alt 2 (.alt 9 (.take 10 .fin) .stop) .stop) .stop)) .stop)) (.alt 7 (.alt 0 (.alt 2 (.alt 8 (.alt 9 (.take 10 .fin) .stop) .stop) (.alt 8 (.alt 2 (.alt 9 (.take 10 .fin) .stop) .stop) .stop)) (.alt 8 (.alt 0 (.alt 2 (.alt 9 (.take 10 .fin) .stop) .stop) .stop) .stop)) .stop)) .stop)) .stop))))) mix (by kernel_rfl) ?_) ?_
      focus
        refine atree.tk fun K1 g1 => ?_
        simp
        refine g1 _ _ ?_
        clear g1 K1
        refine atree.tk fun K1 g1 => ?_
        simp
        refine g1 _ _ ?_
        clear g1 K1
        refine atree.tk fun K1 g1 => ?_
        simp
        refine g1 _ _ ?_
        clear g1 K1
        refine atree.al (fun K1 g1 => ?_) ?_
        · simp
          refine g1 _ _ ?_
          clear g1 K1
          refine atree.al (fun K1 g1 => ?_) ?_
          · simp
            refine ⟨by omega, g1 _ _ ?_⟩
            clear g1 K1
            refine atree.a1 fun K1 g1 => ?_
            simp
            refine g1 _ _ ?_
            clear g1 K1
            refine atree.a1 fun K1 g1 => ?_
            simp [hk]
            refine g1 _ _ ?_
            clear g1 K1
            refine atree.a1 fun K1 g1 => ?_
            simp
            refine g1 _ _ ?_
            clear g1 K1
            refine atree.a1 fun K1 g1 => ?_
            simp
            refine g1 _ _ ?_
            clear g1 K1
            refine atree.a1 fun K1 g1 => ?_
            simp
            refine ⟨by omega, g1 _ _ ?_⟩
            clear g1 K1
            refine atree.tk fun K1 g1 => ?_
            simp
            refine g1 _ _ ?_
            clear g1 K1
            simp [msgsAV, msgAV]
          · refine atree.a1 fun K1 g1 => ?_
            simp
            refine g1 _ _ ?_
            clear g1 K1
            refine atree.al (fun K1 g1 => ?_) ?_
            · simp
              refine ⟨by omega, g1 _ _ ?_⟩
              clear g1 K1
              refine atree.a1 fun K1 g1 => ?_
              simp [hk]
              refine g1 _ _ ?_
              clear g1 K1
              refine atree.a1 fun K1 g1 => ?_
              simp
              refine g1 _ _ ?_
              clear g1 K1
              refine atree.a1 fun K1 g1 => ?_
              simp
              refine g1 _ _ ?_
              clear g1 K1
              refine atree.a1 fun K1 g1 => ?_
              simp
              refine ⟨by omega, g1 _ _ ?_⟩
              clear g1 K1
              refine atree.tk fun K1 g1 => ?_
              simp
              refine g1 _ _ ?_
              clear g1 K1
              simp [msgsAV, msgAV]
            · refine atree.a1 fun K1 g1 => ?_
              simp [hk]
              refine g1 _ _ ?_
              clear g1 K1
              refine atree.al (fun K1 g1 => ?_) ?_
              · simp
                refine ⟨by omega, g1 _ _ ?_⟩
                clear g1 K1
                refine atree.a1 fun K1 g1 => ?_
                simp
                refine g1 _ _ ?_
                clear g1 K1
                refine atree.a1 fun K1 g1 => ?_
                simp
                refine g1 _ _ ?_
                clear g1 K1
                refine atree.a1 fun K1 g1 => ?_
                simp
                refine ⟨by omega, g1 _ _ ?_⟩
                clear g1 K1
                refine atree.tk fun K1 g1 => ?_
                simp
                refine g1 _ _ ?_
                clear g1 K1
                simp [msgsAV, msgAV]
              · refine atree.a1 fun K1 g1 => ?_
                simp
                refine g1 _ _ ?_
                clear g1 K1
                refine atree.al (fun K1 g1 => ?_) ?_
                · simp
                  refine ⟨by omega, g1 _ _ ?_⟩
                  clear g1 K1
                  refine atree.a1 fun K1 g1 => ?_
                  simp
                  refine g1 _ _ ?_
                  clear g1 K1
                  refine atree.a1 fun K1 g1 => ?_
                  simp
                  refine ⟨by omega, g1 _ _ ?_⟩
                  clear g1 K1
                  refine atree.tk fun K1 g1 => ?_
                  simp
                  refine g1 _ _ ?_
                  clear g1 K1
                  simp [msgsAV, msgAV]
                · refine atree.a1 fun K1 g1 => ?_
                  simp
                  refine g1 _ _ ?_
                  clear g1 K1
                  refine atree.a1 fun K1 g1 => ?_
                  simp
                  refine ⟨by omega, g1 _ _ ?_⟩
                  clear g1 K1
                  refine atree.a1 fun K1 g1 => ?_
                  simp
                  refine ⟨by omega, g1 _ _ ?_⟩
                  clear g1 K1
                  refine atree.tk fun K1 g1 => ?_
                  simp
                  refine g1 _ _ ?_
                  clear g1 K1
                  simp [msgsAV, msgAV]
        · refine atree.a1 fun K1 g1 => ?_
          simp
          refine g1 _ _ ?_
          clear g1 K1
          refine atree.al (fun K1 g1 => ?_) ?_
          · simp
            refine g1 _ _ ?_
            clear g1 K1
            refine atree.al (fun K1 g1 => ?_) ?_
            · simp
              refine ⟨by omega, g1 _ _ ?_⟩
              clear g1 K1
              refine atree.a1 fun K1 g1 => ?_
              simp [hk]
              refine g1 _ _ ?_
              clear g1 K1
              refine atree.a1 fun K1 g1 => ?_
              simp
              refine g1 _ _ ?_
              clear g1 K1
              refine atree.a1 fun K1 g1 => ?_
              simp
              refine g1 _ _ ?_
              clear g1 K1
              refine atree.a1 fun K1 g1 => ?_
              simp
              refine ⟨by omega, g1 _ _ ?_⟩
              clear g1 K1
              refine atree.tk fun K1 g1 => ?_
              simp
              refine g1 _ _ ?_
              clear g1 K1
              simp [msgsAV, msgAV]
            · refine atree.a1 fun K1 g1 => ?_
              simp [hk]
              refine g1 _ _ ?_
              clear g1 K1
              refine atree.al (fun K1 g1 => ?_) ?_
              · simp
                refine ⟨by omega, g1 _ _ ?_⟩
                clear g1 K1
                refine atree.a1 fun K1 g1 => ?_
                simp
                refine g1 _ _ ?_
                clear g1 K1
                refine atree.a1 fun K1 g1 => ?_
                simp
                refine g1 _ _ ?_
                clear g1 K1
                refine atree.a1 fun K1 g1 => ?_
                simp
                refine ⟨by omega, g1 _ _ ?_⟩
                clear g1 K1
                refine atree.tk fun K1 g1 => ?_
                simp
                refine g1 _ _ ?_
                clear g1 K1
                simp [msgsAV, msgAV]
              · refine atree.a1 fun K1 g1 => ?_
                simp
                refine g1 _ _ ?_
                clear g1 K1
                refine atree.al (fun K1 g1 => ?_) ?_
                · simp
                  refine ⟨by omega, g1 _ _ ?_⟩
                  clear g1 K1
                  refine atree.a1 fun K1 g1 => ?_
                  simp
                  refine g1 _ _ ?_
                  clear g1 K1
                  refine atree.a1 fun K1 g1 => ?_
                  simp
                  refine ⟨by omega, g1 _ _ ?_⟩
                  clear g1 K1
                  refine atree.tk fun K1 g1 => ?_
                  simp
                  refine g1 _ _ ?_
                  clear g1 K1
                  simp [msgsAV, msgAV]
                · refine atree.a1 fun K1 g1 => ?_
                  simp
                  refine g1 _ _ ?_
                  clear g1 K1
                  refine atree.a1 fun K1 g1 => ?_
                  simp
                  refine ⟨by omega, g1 _ _ ?_⟩
                  clear g1 K1
                  refine atree.a1 fun K1 g1 => ?_
                  simp
                  refine ⟨by omega, g1 _ _ ?_⟩
                  clear g1 K1
                  refine atree.tk fun K1 g1 => ?_
                  simp
                  refine g1 _ _ ?_
                  clear g1 K1
                  simp [msgsAV, msgAV]
          · refine atree.a1 fun K1 g1 => ?_
            simp [hk]
            refine g1 _ _ ?_
            clear g1 K1
            refine atree.al (fun K1 g1 => ?_) ?_
            · simp
              refine g1 _ _ ?_
              clear g1 K1
              refine atree.al (fun K1 g1 => ?_) ?_
              · simp
                refine ⟨by omega, g1 _ _ ?_⟩
                clear g1 K1
                refine atree.a1 fun K1 g1 => ?_
                simp
                refine g1 _ _ ?_
                clear g1 K1
                refine atree.a1 fun K1 g1 => ?_
                simp
                refine g1 _ _ ?_
                clear g1 K1
                refine atree.a1 fun K1 g1 => ?_
                simp
                refine ⟨by omega, g1 _ _ ?_⟩
                clear g1 K1
                refine atree.tk fun K1 g1 => ?_
                simp
                refine g1 _ _ ?_
                clear g1 K1
                simp [msgsAV, msgAV]
              · refine atree.a1 fun K1 g1 => ?_
                simp
                refine g1 _ _ ?_
                clear g1 K1
                refine atree.al (fun K1 g1 => ?_) ?_
                · simp
                  refine ⟨by omega, g1 _ _ ?_⟩
                  clear g1 K1
                  refine atree.a1 fun K1 g1 => ?_
                  simp
                  refine g1 _ _ ?_
                  clear g1 K1
                  refine atree.a1 fun K1 g1 => ?_
                  simp
                  refine ⟨by omega, g1 _ _ ?_⟩
                  clear g1 K1
                  refine atree.tk fun K1 g1 => ?_
                  simp
                  refine g1 _ _ ?_
                  clear g1 K1
                  simp [msgsAV, msgAV]
                · refine atree.a1 fun K1 g1 => ?_
                  simp
                  refine g1 _ _ ?_
                  clear g1 K1
                  refine atree.a1 fun K1 g1 => ?_
                  simp
                  refine ⟨by omega, g1 _ _ ?_⟩
                  clear g1 K1
                  refine atree.a1 fun K1 g1 => ?_
                  simp
                  refine ⟨by omega, g1 _ _ ?_⟩
                  clear g1 K1
                  refine atree.tk fun K1 g1 => ?_
                  simp
                  refine g1 _ _ ?_
                  clear g1 K1
                  simp [msgsAV, msgAV]
            · refine atree.a1 fun K1 g1 => ?_
              simp
              refine g1 _ _ ?_
              clear g1 K1
              refine atree.al (fun K1 g1 => ?_) ?_
              · simp
                refine g1 _ _ ?_
                clear g1 K1
                refine atree.al (fun K1 g1 => ?_) ?_
                · simp
                  refine ⟨by omega, g1 _ _ ?_⟩
                  clear g1 K1
                  refine atree.a1 fun K1 g1 => ?_
                  simp
                  refine g1 _ _ ?_
                  clear g1 K1
                  refine atree.a1 fun K1 g1 => ?_
                  simp
                  refine ⟨by omega, g1 _ _ ?_⟩
                  clear g1 K1
                  refine atree.tk fun K1 g1 => ?_
                  simp
                  refine g1 _ _ ?_
                  clear g1 K1
                  simp [msgsAV, msgAV]
                · refine atree.a1 fun K1 g1 => ?_
                  simp
                  refine g1 _ _ ?_
                  clear g1 K1
                  refine atree.a1 fun K1 g1 => ?_
                  simp
                  refine ⟨by omega, g1 _ _ ?_⟩
                  clear g1 K1
                  refine atree.a1 fun K1 g1 => ?_
                  simp
                  refine ⟨by omega, g1 _ _ ?_⟩
                  clear g1 K1
                  refine atree.tk fun K1 g1 => ?_
                  simp
                  refine g1 _ _ ?_
                  clear g1 K1
                  simp [msgsAV, msgAV]
              · refine atree.a1 fun K1 g1 => ?_
                simp
                refine g1 _ _ ?_
                clear g1 K1
                refine atree.a1 fun K1 g1 => ?_
                simp
                refine g1 _ _ ?_
                clear g1 K1
                refine atree.a1 fun K1 g1 => ?_
                simp
                refine ⟨by omega, g1 _ _ ?_⟩
                clear g1 K1
                refine atree.a1 fun K1 g1 => ?_
                simp
                refine ⟨by omega, g1 _ _ ?_⟩
                clear g1 K1
                refine atree.tk fun K1 g1 => ?_
                simp
                refine g1 _ _ ?_
                clear g1 K1
                simp [msgsAV, msgAV]
      show AWp _ _ _ _
      refine AWp.go [6, 7] [0] fun K hK => ?_
      simp
      refine hK _ _ ?_
      clear hK K
      refine AWp.frz [6] ?_
      simp
      refine AWp.ret ?_
      simp [doL, h2, hk0, hk]
  refine AWp.cond (t := false) (by simp [h2]) (by simp) (fun _ => ?_)
  refine AWp.go [0, 1, 5, 8, 9, 28, 108] [0, 6] fun K hK => ?_
  simp
  refine hK _ _ ?_
  clear hK K
  by_cases h3 : a.d = 3
  · refine AWp.cond (t := true) (by simp [h3]) (fun _ => ?_) (by simp)
    refine AWp.go [0, 1, 5, 8, 9, 14] [0, 6] fun K hK => ?_
    simp
    refine call_proc [(0, 0)] none (c21 l true a.n hl6) (by simp) (by simp) ?_
    simp
    refine hK _ _ ?_
    clear hK K
    refine AWp.seq ?_
    refine AWp.go [0, 1, 5, 8, 9, 14, 114] [0, 6] fun K hK => ?_
    simp
    refine hK _ _ ?_
    clear hK K
    cases hq : th
    · have hn : ¬ (0 ≤ a.n ∧ a.n < l.length) := by simpa [hq] using hth
      refine AWp.cond (t := false) (by simp) (by simp) (fun _ => AWp.skip ?_)
      show AWp _ _ _ _
      refine AWp.go [6, 7] [0] fun K hK => ?_
      simp
      refine hK _ _ (AWp.ret ?_)
      rw [show loseL l a.n = l by simp only [loseL, if_neg hn], show doL l a = l by simp only [doL, h3, loseL, if_neg hn]; simp]
      simp
    · have hn : 0 ≤ a.n ∧ a.n < l.length := by simpa [hq] using hth
      refine AWp.cond (t := true) (by simp) (fun _ => ?_) (by simp)
      obtain ⟨k, hk0⟩ : ∃ k : Nat, a.n = k := ⟨a.n.toNat, by omega⟩
      have hk : k < l.length := by omega
      rw [hk0]
      refine AWp.last' [0, 1, 9, 14] [0] [(0, .ptr 0 0), (1, .sl .own 3 (msgsAV (loseL l k))), (9, .i .i64 (loseE l k)), (14, .i .i64 (loseE l k))] [(0, [.sl .own 3 (msgsAV (loseL l k)), .b true])] (AWp.region ?_) ?_
      · rw [show loseL l k = l.take k ++ l.drop (k + 1) by simp [loseL, hk]]
        simp
        refine call_pure (c69 l k hk hl6) (by simp) ?_
        simp
      show AWp _ _ _ _
      refine AWp.go [6, 7] [0] fun K hK => ?_
      simp
      refine hK _ _ ?_
      clear hK K
      refine AWp.frz [6] ?_
      simp
      refine AWp.ret ?_
      simp [doL, h3, hk0]
  refine AWp.cond (t := false) (by simp [h3]) (by simp) (fun _ => AWp.skip ?_)
  show AWp _ _ _ _
  refine AWp.go [6, 7] [0] fun K hK => ?_
  simp
  refine hK _ _ (AWp.ret ?_)
  simp [doL, h0, h1, h2, h3]
end Go.AM
namespace Go.AM
open Go.Proofs

theorem forL_more (l : List Msg) (t : Int) (i : Nat) : ∀ d, ∃ r, forL l t (i + d) = forL l t i ++ r
  | 0 => ⟨[], by simp⟩
  | d + 1 => by
    obtain ⟨r, hr⟩ := forL_more l t i d
    exact ⟨_, by rw [← Nat.add_assoc, forL_succ, hr, List.append_assoc]⟩

theorem forL_at (l : List Msg) (t : Int) (i : Nat) (hi : i < l.length) (h : (l.getD i default).dst = t) : (forL l t i).length < (forL l t l.length).length ∧ (forL l t l.length)[(forL l t i).length]? = some i := by
  obtain ⟨r, hr⟩ := forL_more l t (i + 1) (l.length - (i + 1))
  rw [show i + 1 + (l.length - (i + 1)) = l.length by omega, forL_succ, if_pos h] at hr
  rw [hr]
  refine ⟨by simp, by simp⟩

theorem doL_length (l : List Msg) (a : PAct) : (doL l a).length ≤ l.length + 1 := by
  have hl : ∀ n : Int, (loseL l n).length ≤ l.length + 1 := by
    intro n
    unfold loseL
    split
    · simp; omega
    · omega
  unfold doL
  split
  · split <;> simp
  split
  · exact hl _
  split
  · split <;> simp
  split
  · exact hl _
  · omega

theorem doL_may (l : List Msg) (a : PAct) (h : ∀ m ∈ l, mayB m = true) : ∀ m ∈ doL l a, mayB m = true := by
  have hl : ∀ n : Int, ∀ m ∈ loseL l n, mayB m = true := by
    intro n m hm
    unfold loseL at hm
    split at hm
    · rcases List.mem_append.1 hm with hm | hm
      · exact h m (List.mem_of_mem_take hm)
      · exact h m (List.mem_of_mem_drop hm)
    · exact h m hm
  intro m hm
  unfold doL at hm
  split at hm
  · split at hm
    · rename_i hq
      rcases List.mem_append.1 hm with hm | hm
      · exact h m hm
      · simp at hm; subst hm; exact hq
    · exact h m hm
  split at hm
  · exact hl _ m hm
  split at hm
  · split at hm
    · rename_i hq
      rcases List.mem_append.1 hm with hm | hm
      · exact h m hm
      · simp at hm
        subst hm
        obtain ⟨k, hk⟩ : ∃ k : Nat, a.n = k := ⟨a.n.toNat, by omega⟩
        rw [hk] at hq ⊢
        have hk : k < l.length := by omega
        simp [hk]
        exact h _ (List.getElem_mem hk)
    · exact h m hm
  split at hm
  · exact hl _ m hm
  · exact h m hm

def actsL (acts : List PAct) (i : Nat) : List Msg := (acts.take i).foldl doL []
theorem actsL_succ (acts : List PAct) (i : Nat) (h : i < acts.length) : actsL acts (i + 1) = doL (actsL acts i) acts[i] := by
  unfold actsL
  rw [List.take_succ_eq_append_getElem h, List.foldl_append]
  rfl
theorem actsL_ok (acts : List PAct) : ∀ i, i ≤ acts.length → (actsL acts i).length ≤ i ∧ ∀ m ∈ actsL acts i, mayB m = true
  | 0, _ => by simp [actsL]
  | i + 1, h => by
    obtain ⟨h1, h2⟩ := actsL_ok acts i (by omega)
    rw [actsL_succ acts i (by omega)]
    exact ⟨Nat.le_trans (doL_length _ _) (by omega), doL_may _ _ h2⟩

set_option maxHeartbeats 4000000 in
set_option maxRecDepth 16000 in
theorem c3 (acts : List PAct) (to : Int) : Pure Try.prog 3 [.sl .fro 5 (pactsAV acts), .i .i64 to] (.b true) := by
  refine proc_of (cx Try.prog 83 [0, 1, 4, 5, 6, 7, 8, 9, 10, 11, 14, 24, 43, 52, 64] [4]) 81 [.tmp 4] Try.func3 rfl rfl rfl rfl rfl rfl (Nat.le_refl _) rfl ?_
  refine AWp.go [0, 1] [] fun K hK => ?_
  simp
  refine hK _ _ (AWp.seq ?_)
  clear hK K
  refine AWp.go [0, 1, 14] [] fun K hK => ?_
  simp
  refine call_pure (c11 acts) (by simp) ?_
  simp
  refine hK _ _ ?_
  clear hK K
  cases hlt : lightB acts
  · refine AWp.cond (t := true) (by simp) (fun _ => ?_) (by simp)
    refine AWp.go [4] [] fun K hK => ?_
    simp
    refine call_pure c12 (by simp) ?_
    simp
    refine hK _ _ (AWp.ret ?_)
    simp
  have h60 : acts.length ≤ 60 := by simp [lightB] at hlt; exact hlt.1
  have hbody : ∀ a ∈ acts, a.msg.body.length ≤ 140737488355328 := fun a h => by
    simp [lightB] at hlt
    have := hlt.2 a h
    omega
  refine AWp.cond (t := false) (by simp) (by simp) (fun _ => AWp.skip ?_)
  show AWp _ _ _ _
  refine AWp.go [0, 1, 5] [16] fun K hK => ?_
  simp
  refine call_proc [] (some (2, 16)) c13 (by simp) (by simp) ?_
  simp
  refine hK _ _ ?_
  clear hK K
  refine AWp.go [0, 1, 5, 6] [16] fun K hK => ?_
  simp
  refine hK _ _ ?_
  clear hK K
  refine AWp.frz [6] ?_
  simp
  refine AWp.go [0, 1, 5, 6, 7] [16] fun K hK => ?_
  simp
  refine hK _ _ (AWp.seq ?_)
  clear hK K
  refine AWp.go [0, 1, 5, 6, 7, 8] [16] fun K hK => ?_
  simp
  refine hK _ _ ?_
  clear hK K
  refine AWp.block (AWp.while (fun i : Nat => [(0, .sl .fro 5 (pactsAV acts)), (1, .i .i64 to), (5, .ptr 16 0), (6, .sl .fro 3 (msgsAV (actsL acts i))), (7, .b true), (8, .i .i64 i)]) (fun i => [(16, [.sl .own 3 (msgsAV (actsL acts i)), .b true])]) (fun i => i ≤ acts.length) (fun i => acts.length - i) [0, 1, 5, 6, 7, 8] [16] 0 (by simp) (by simp [actsL, msgsAV]) ?_)
  intro i hi
  refine AWp.seq ?_
  refine AWp.go [0, 1, 5, 6, 7, 8, 24] [16] fun K hK => ?_
  by_cases h : i < acts.length
  · simp [h]
    refine hK _ _ ?_
    clear hK K
    refine AWp.cond (t := true) (by simp) (fun _ => AWp.skip ?_) (by simp)
    obtain ⟨h1, h2⟩ := actsL_ok acts i hi
    show AWp _ _ _ _
    refine AWp.seq (AWp.block ?_)
    refine AWp.goLast [0, 1, 5, 6, 7, 8] [16] fun K hK => ?_
    simp [h]
    refine call_proc [(0, 16)] none (c14 (actsL acts i) acts[i] (by omega) h2 (hbody _ (List.getElem_mem h))) (by simp [pactAV]) (by simp) ?_
    simp
    refine hK _ _ ?_
    clear hK K
    show AWp _ _ _ _
    refine AWp.goLast [0, 1, 5, 6, 7, 8] [16] fun K hK => ?_
    simp
    refine hK _ _ ?_
    refine ⟨i + 1, by omega, by omega, ?_⟩
    simp [actsL_succ acts i h, wrap64 (show -9223372036854775808 ≤ (i : Int) + 1 by omega) (by omega)]
  · simp [h]
    refine hK _ _ ?_
    clear hK K
    refine AWp.cond (t := false) (by simp) (by simp) (fun _ => AWp.exit ?_)
    have hil : i = acts.length := by omega
    subst hil
    show AWp _ _ _ _
    obtain ⟨h1, h2⟩ := actsL_ok acts acts.length (Nat.le_refl _)
    generalize actsL acts acts.length = l at h1 h2
    have hl6 : l.length ≤ 1000000 := by omega
    have hb : ∀ m ∈ l, m.body.length ≤ 140737488355328 := fun m h => by
      have := h2 m h
      simp [mayB] at this
      omega
    refine AWp.go [1, 5, 6, 7, 9] [16] fun K hK => ?_
    simp
    refine call_proc [(0, 16)] none (c15 l true to hl6 hb) (by simp) (by simp) ?_
    simp
    refine hK _ _ ?_
    clear hK K
    refine AWp.go [1, 5, 6, 7, 9, 10] [16] fun K hK => ?_
    simp
    refine hK _ _ (AWp.seq ?_)
    clear hK K
    refine AWp.go [1, 5, 6, 7, 9, 10, 11] [16] fun K hK => ?_
    simp
    refine hK _ _ ?_
    clear hK K
    refine AWp.block (AWp.while (fun i : Nat => [(1, .i .i64 to), (5, .ptr 16 0), (6, .sl .fro 3 (msgsAV l)), (7, .b true), (9, .sl .own 1 (natsAV (forL l to l.length))), (10, .i .i64 (forL l to i).length), (11, .i .i64 i)]) (fun i => [(16, [.sl .own 3 (msgsAV l), .b true])]) (fun i => i ≤ l.length) (fun i => l.length - i) [1, 5, 6, 7, 9, 10, 11] [16] 0 (by simp) (by simp [forL]) ?_)
    clear hi h
    intro i hi
    refine AWp.seq ?_
    refine AWp.go [1, 5, 6, 7, 9, 10, 11, 43] [16] fun K hK => ?_
    simp
    refine hK _ _ ?_
    clear hK K
    by_cases h : i < l.length
    · refine AWp.cond (t := true) (by simp [h]) (fun _ => AWp.skip ?_) (by simp)
      show AWp _ _ _ _
      refine AWp.seq (AWp.block ?_)
      refine AWp.go [1, 5, 6, 7, 9, 10, 11, 52] [16] fun K hK => ?_
      simp [h]
      refine hK _ _ ?_
      clear hK K
      have hw : IntKind.i64.wrap ((i : Int) + 1) = (i : Int) + 1 := wrap64 (by omega) (by omega)
      by_cases ht : l[i].dst = to
      · refine AWp.cond (t := true) (by simp [ht]) (fun _ => ?_) (by simp)
        obtain ⟨g1, g2⟩ := forL_at l to i h (by simpa [h] using ht)
        have g3 : (forL l to l.length)[(forL l to i).length] = i := (List.getElem?_eq_some_iff.1 g2).2
        have g4 := forL_le l to i
        have hw2 : IntKind.i64.wrap (((forL l to i).length : Int) + 1) = ((forL l to i).length : Int) + 1 := wrap64 (by omega) (by omega)
        refine AWp.seq ?_
        refine AWp.step [1, 5, 6, 7, 9, 10, 11, 64] [16] [(1, .i .i64 to), (5, .ptr 16 0), (6, .sl .fro 3 (msgsAV l)), (7, .b true), (9, .sl .own 1 (natsAV (forL l to l.length))), (10, .i .i64 (forL l to i).length), (11, .i .i64 i), (64, .b false)] [(16, [.sl .own 3 (msgsAV l), .b true])] ?_ ?_
        · simp [g1, natsAV, g3]
        refine AWp.cond (t := false) (by simp) (by simp) (fun _ => AWp.skip ?_)
        show AWp _ _ _ _
        refine AWp.goLast [1, 5, 6, 7, 9, 10, 11] [16] fun K hK => ?_
        simp
        refine hK _ _ ?_
        clear hK K
        show AWp _ _ _ _
        refine AWp.goLast [1, 5, 6, 7, 9, 10, 11] [16] fun K hK => ?_
        simp
        refine hK _ _ ?_
        refine ⟨i + 1, by omega, by omega, ?_⟩
        simp [forL_succ, h, ht, hw, hw2]
      · refine AWp.cond (t := false) (by simp [ht]) (by simp) (fun _ => AWp.skip ?_)
        show AWp _ _ _ _
        refine AWp.goLast [1, 5, 6, 7, 9, 10, 11] [16] fun K hK => ?_
        simp
        refine hK _ _ ?_
        refine ⟨i + 1, by omega, by omega, ?_⟩
        simp [forL_succ, h, ht, hw]
    · refine AWp.cond (t := false) (by simp [h]) (by simp) (fun _ => AWp.exit ?_)
      have hil : i = l.length := by omega
      subst hil
      show AWp _ _ _ _
      refine AWp.go [4] [] fun K hK => ?_
      simp
      refine call_proc [(0, 16)] none (c17 l true hl6 hb) (by simp) (by simp) ?_
      simp
      refine call_pure (c16 l l (by omega) hb) (by simp) ?_
      simp
      refine call_pure c12 (by simp) ?_
      simp
      refine hK _ _ (AWp.ret ?_)
      simp
end Go.AM

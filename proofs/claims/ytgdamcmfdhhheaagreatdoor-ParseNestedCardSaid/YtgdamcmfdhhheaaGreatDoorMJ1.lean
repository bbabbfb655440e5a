/- Two scripts joined are one: the plain law of ParseJoined. -/
import Derived.Test.YtgdamcmfdhhheaaGreatDoorMJ0
import Derived.Test.YtgdamcmfdhhheaaGreatDoorMP1
set_option linter.all false

namespace Go.Proofs.YtgdamcmfdhhheaaGreatDoor
open Go.RowKit Bf

theorem lexFrom_bound : ∀ (f : Nat) (s : List UInt8) (i : Nat) (acc l : List Tok), lexFrom f s i acc = .ok l → l.length ≤ acc.length + s.length := by
  intro f
  induction f with
  | zero => intro s i acc l h; cases h; omega
  | succ f ih =>
    intro s i acc l h
    cases s with
    | nil => cases h; omega
    | cons b s =>
      simp only [lexFrom] at h
      cases hl : lxN (b :: s) with
      | skip n =>
        rw [hl] at h
        have := ih _ _ _ _ h
        simp only [List.length_drop] at this
        omega
      | bad n => rw [hl] at h; cases h
      | tok t n =>
        rw [hl] at h
        simp only at h
        have hn := lxN_tok (by simp) hl
        split at h
        · cases h
        · have := ih _ _ _ _ h
          simp only [List.length_drop, List.length_append, List.length_cons, List.length_nil] at this hn ⊢
          omega

theorem tokOk_kind {t : Tok} (h : tokOk t = true) : t.kind ≠ 0 := by
  intro e
  unfold tokOk at h
  rw [e] at h
  simp at h

theorem tokOk_at (t : Tok) (p : Nat) : tokOk { t with pos := p } = tokOk t := rfl

theorem tokOk_er (t : Tok) : tokOk t.er = tokOk t := rfl

mutual
theorem T.size_er : ∀ t : T, t.er.size = t.size
  | .node k p x n ts => by simp only [T.er, T.size]; rw [sizeL_er ts]
theorem sizeL_er : ∀ ts : List T, sizeL (erL ts) = sizeL ts
  | [] => rfl
  | t :: ts => by simp only [erL, sizeL]; rw [T.size_er t, sizeL_er ts]
end

theorem pRun_two {n m : Nat} {g : G} {R : List Tok} {v : List T} {R1 : List Tok} (h : pRun n g R = .ok v R1) (hm : pRun m g R ≠ .out) : pRun m g R = .ok v R1 := by
  have h1 := pRun_mono (Nat.le_max_left n m) g R (by rw [h]; simp)
  have h2 := pRun_mono (Nat.le_max_right n m) g R hm
  rw [← h2, h1, h]

/-- What a script's tokens answer, told by any run. -/
theorem scriptR_of {n : Nat} {toks : List Tok} {v : List T} {R1 : List Tok} (h : pRun n (.stmts 0 true) toks = .ok v R1) : scriptR toks = .ok v R1 := pRun_two h (script_fuel toks)

theorem parseR_ok {s : List UInt8} {t : T} (h : parseR s = .ok t) : ∃ la p ts R, lexFrom s.length s 0 [] = .ok la ∧ p = s.length ∧ (∀ x ∈ la, tokOk x = true) ∧ scriptR (la ++ [⟨0, p, [], 0⟩]) = .ok ts R ∧ t = rootT (la ++ [⟨0, p, [], 0⟩]) ts ∧ t.size ≤ 16384 := by
  have hsz := parseR_size h
  unfold parseR at h
  split at h
  · rename_i l hl
    unfold tokens at hl
    cases hx : lexFrom s.length s 0 [] with
    | error e => rw [hx] at hl; cases hl
    | ok la =>
      rw [hx] at hl
      cases hl
      unfold treeR at h
      split at h
      · rename_i hme
        split at h
        · rename_i ts R hs
          split at h
          · cases h
          · cases h
            refine ⟨la, _, ts, R, rfl, rfl, fun x hx => ?_, hs, rfl, hsz⟩
            unfold mayE at hme
            rw [List.dropLast_concat] at hme
            split at hme
            · rename_i hall
              exact List.all_eq_true.1 hall x hx
            · cases hme
        · cases h
        · cases h
      · cases h
  · cases h

theorem parseR_mk {s : List UInt8} {l : List Tok} {ts : List T} {R : List Tok} (hl : tokens s = .ok l) (hm : ∀ x ∈ l.dropLast, tokOk x = true) (hs : scriptR l = .ok ts R) (hsz : (rootT l ts).size ≤ 16384) : parseR s = .ok (rootT l ts) := by
  unfold parseR
  rw [hl]
  simp only
  unfold treeR
  rw [if_pos (by unfold mayE; rw [if_pos (List.all_eq_true.2 hm)]), hs]
  simp only
  rw [if_neg (by omega)]

theorem sh_er (k : Nat) (t : Tok) : (sh k t).er = t.er := rfl
theorem map_sh_er (k : Nat) (l : List Tok) : (l.map (sh k)).map Tok.er = l.map Tok.er := by
  rw [List.map_map]
  exact List.map_congr_left fun t _ => sh_er k t

theorem joined_is (s t : List UInt8) (h1 : s.length ≤ 3000) (h2 : t.length ≤ 3000) : JoinedIs s t := by
  intro a b ha hb
  obtain ⟨la, p, ts, R, hla, rfl, hoka, hsa, rfl, hza⟩ := parseR_ok ha
  obtain ⟨lb, p, us, R', hlb, rfl, hokb, hsb, rfl, hzb⟩ := parseR_ok hb
  have ba := lexFrom_bound _ _ _ _ _ hla
  have bb := lexFrom_bound _ _ _ _ _ hlb
  simp only [List.length_nil, Nat.zero_add] at ba bb
  have hj := tokens_join hla hlb (by omega)
  generalize hE : (⟨0, (s ++ 10 :: t).length, [], 0⟩ : Tok) = e at hj
  have he : e.kind = 0 := by rw [← hE]
  have hk0 : ((hd [e]).kind == 0) = true := by simp [hd, he]
  obtain ⟨n1, v1, hr1, hv1⟩ := stmts_join (e := ⟨0, t.length, [], 0⟩) rfl (Z := [e]) (m := 1) (u := []) (R2 := [e]) (by simp only [pRun, pStep, stmtsB, if_true, hk0]) _ lb (lb.map (sh (s.length + 1))) us R'
    (fun x hx => tokOk_kind (hokb x hx)) (map_sh_er _ _).symm hsb
  rw [List.append_nil] at hr1
  obtain ⟨n2, v2, hr2, hv2⟩ := stmts_join (e := ⟨0, s.length, [], 0⟩) rfl hr1 _ la la ts R (fun x hx => tokOk_kind (hoka x hx)) rfl hsa
  have hsc := scriptR_of hr2
  rw [← List.append_assoc] at hsc
  have z1 : sizeL v1 = sizeL us := by rw [← sizeL_er v1, hv1, sizeL_er]
  have z2 : sizeL v2 = sizeL ts := by rw [← sizeL_er v2, hv2, sizeL_er]
  have l1 := erL_length hv1
  have l2 := erL_length hv2
  have hsz : ∀ l vs, (rootT l vs).size = sizeL vs + 1 := fun l vs => rfl
  have hb1 := stmts_size hr2
  have hbound : (rootT (la ++ lb.map (sh (s.length + 1)) ++ [e]) (v2 ++ v1)).size ≤ 16384 := by
    rw [hsz]
    simp only [List.length_append, List.length_map, List.length_cons, List.length_nil] at hb1
    omega
  refine ⟨_, parseR_mk hj (fun x hx => ?_) hsc hbound, ?_, ?_, hza, hzb⟩
  · rw [List.dropLast_concat] at hx
    rcases List.mem_append.1 hx with hx | hx
    · exact hoka x hx
    · obtain ⟨y, hy, rfl⟩ := List.mem_map.1 hx
      exact hokb y hy
  · rw [hsz, hsz, hsz, sizeL_append, z1, z2]; omega
  · show (v2 ++ v1).length = ts.length + us.length
    simp [l1, l2]

end Go.Proofs.YtgdamcmfdhhheaaGreatDoor

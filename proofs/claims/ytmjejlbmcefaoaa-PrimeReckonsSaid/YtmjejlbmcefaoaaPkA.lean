/- A symbolic executor, checked once, and what it shows of the functions: part 1. -/
namespace Go.Proofs.Ytmjejlbmcefaoaa

section
variable {n : Nat} [NeZero n]

end
end Go.Proofs.Ytmjejlbmcefaoaa
namespace Go.Proofs.Ytmjejlbmcefaoaa

section
variable {n : Nat} [NeZero n]

variable {inv : Fin n → Fin n} {d i : Fin n}

end
end Go.Proofs.Ytmjejlbmcefaoaa

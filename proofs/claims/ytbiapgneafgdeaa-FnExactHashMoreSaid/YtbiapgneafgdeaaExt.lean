/- Imports for contracts of ours. No condition of ours. -/
import Derived.StillTailTactics
import Derived.Test.YtbiapgneafgdeaaWWords
